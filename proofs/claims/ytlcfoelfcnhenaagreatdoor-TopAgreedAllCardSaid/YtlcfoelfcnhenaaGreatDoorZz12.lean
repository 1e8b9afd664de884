import Derived.Test.YtlcfoelfcnhenaaGreatDoorZz11
set_option linter.unusedSimpArgs false
set_option linter.unusedVariables false
section
namespace Go.Eng
section
variable {E : Env} {Q : Exit → ST → Prop} {k : List It} {ops : Array Oper} {o : Oper} {rest : List Oper} {fr : Nat → AV} {ob : Nat → Option Ob} {nx nt : Nat} {md : Nat → Bool} {T : TE} {tr0 : List (EffM × (List Nat × List Nat))}
theorem XL.opE (hT : TOk E.P T) {d : Nat} {x y : AV} {obl obl' : List Prop} (hda : ops.toList.all (dstOk ⟨fun _ => .junk, fun _ => none, nx, nt, md⟩) = true) (hm : o ∈ ops.toList) (hs : stepF T ops.toList ⟨fr, ob, nx, nt, md⟩ o = some (obl, ⟨x, none⟩)) (hf : frcR obl [] = some obl') (ho : AllP obl') (hds : o.dst = some d) (hx : x = y)
    (h : XL E ops Q rest ⟨upd fr d y, ob, nx, nt, md⟩) : XL E ops Q (o :: rest) ⟨fr, ob, nx, nt, md⟩ := by
  subst hx
  have dk : ∀ o' ∈ ops.toList, dstOk ⟨fr, ob, nx, nt, md⟩ o' = true := fun o' ho' => List.all_eq_true.1 hda o' ho'
  refine XL.step (stepF_ok hT hs (AllP.memR hf ho) (dk o hm) (fun j pol o' d _ hj hdst => dstOk_lt (dk o' (Array.mem_toList_iff.2 (Array.mem_of_getElem? hj))) d hdst)) ?_
  simp only [ST.app, hds]
  exact h
theorem XD.opE (hT : TOk E.P T) {d : Nat} {x y : AV} {obl obl' : List Prop} (hda : ops.toList.all (dstOk ⟨fun _ => .junk, fun _ => none, nx, nt, md⟩) = true) (hm : ops.toList.drop (ops.toList.length - (o :: rest).length) = o :: rest) (hs : stepF T ops.toList ⟨fr, ob, nx, nt, md⟩ o = some (obl, ⟨x, none⟩)) (hf : frcR obl [] = some obl') (ho : AllP obl') (hds : o.dst = some d) (hx : x = y)
    (h : XD E ops Q k (tr0 ++ [(⟨y, []⟩, fpF ops.toList ⟨fr, ob, nx, nt, md⟩ o)]) rest ⟨upd fr d y, ob, nx, nt, md⟩) : XD E ops Q k tr0 (o :: rest) ⟨fr, ob, nx, nt, md⟩ := by
  subst hx
  have hmem : o ∈ ops.toList := by
    have : o ∈ ops.toList.drop (ops.toList.length - (o :: rest).length) := by rw [hm]; simp
    exact List.mem_of_mem_drop this
  refine XD.step (eff := ⟨x, none⟩) (Local.step hT hs (AllP.memR hf ho) hda hmem) ?_
  simp only [ST.app, hds]
  exact h
end
section
variable {E : Env} {T : TE} {Q : Exit → ST → Prop} {k : List It} {ops : Array Oper} {tr0 : List (EffM × (List Nat × List Nat))}
theorem XD.runN (hT : TOk E.P T) {l2 : List Oper} {nx nt : Nat} {md : Nat → Bool} (hd : ops.toList.all (dstOk ⟨fun _ => .junk, fun _ => none, nx, nt, md⟩) = true) : ∀ {l : List Oper} {acc : List Prop} {tr0 tr' : List (EffM × (List Nat × List Nat))} {fr fr' : Nat → AV} {ob ob' : Nat → Option Ob} {obl : List Prop} {rest : List Oper}, (∀ o ∈ l, o ∈ ops.toList) → runD T ops.toList nx nt md acc tr0 fr ob l = ⟨obl, tr', fr', ob', rest⟩ → (∀ p ∈ obl, p) →
    XD E ops Q k tr' (rest ++ l2) ⟨fr', ob', nx, nt, md⟩ → XD E ops Q k tr0 (l ++ l2) ⟨fr, ob, nx, nt, md⟩ ∧ ∀ p ∈ acc, p
  | [], acc, tr0, tr', fr, fr', ob, ob', obl, rest, _, hr, ho, h => by
    simp only [runD, RunD.mk.injEq] at hr
    obtain ⟨rfl, rfl, rfl, rfl, rfl⟩ := hr
    exact ⟨h, ho⟩
  | o :: l, acc, tr0, tr', fr, fr', ob, ob', obl, rest, hmem, hr, ho, h => by
    have stop : (⟨acc, tr0, fr, ob, o :: l⟩ : RunD) = ⟨obl, tr', fr', ob', rest⟩ → XD E ops Q k tr0 (o :: l ++ l2) ⟨fr, ob, nx, nt, md⟩ ∧ ∀ p ∈ acc, p := by
      intro hr
      simp only [RunD.mk.injEq] at hr
      obtain ⟨rfl, rfl, rfl, rfl, rfl⟩ := hr
      exact ⟨h, ho⟩
    have go : ∀ {ob1 : List Prop} {eff : Eff} {fr1 : Nat → AV} {obj1 : Nat → Option Ob}, stepF T ops.toList ⟨fr, ob, nx, nt, md⟩ o = some (ob1, eff) → (ST.app ⟨fr, ob, nx, nt, md⟩ o.dst eff) = ⟨fr1, obj1, nx, nt, md⟩ →
        (match ob1 with
          | [] => runD T ops.toList nx nt md acc (tr0 ++ [(eff.toM, fpF ops.toList ⟨fr, ob, nx, nt, md⟩ o)]) fr1 obj1 l
          | p :: ps => runD T ops.toList nx nt md (pushR (p :: ps) acc) (tr0 ++ [(eff.toM, fpF ops.toList ⟨fr, ob, nx, nt, md⟩ o)]) fr1 obj1 l) = ⟨obl, tr', fr', ob', rest⟩ → XD E ops Q k tr0 (o :: l ++ l2) ⟨fr, ob, nx, nt, md⟩ ∧ ∀ p ∈ acc, p := by
      intro ob1 eff fr1 obj1 hs he hr
      have fin : XD E ops Q k (tr0 ++ [(eff.toM, fpF ops.toList ⟨fr, ob, nx, nt, md⟩ o)]) (l ++ l2) ⟨fr1, obj1, nx, nt, md⟩ → (∀ p ∈ ob1, p) → XD E ops Q k tr0 (o :: l ++ l2) ⟨fr, ob, nx, nt, md⟩ := fun hx hp =>
        XD.step (Local.step hT hs hp hd (hmem o (by simp))) (he ▸ hx)
      cases ob1 with
      | nil =>
        obtain ⟨h1, h2⟩ := XD.runN hT hd (fun o' ho' => hmem o' (by simp [ho'])) hr ho h
        exact ⟨fin h1 (fun p hp => by cases hp), h2⟩
      | cons q qs =>
        obtain ⟨h1, h2⟩ := XD.runN hT hd (fun o' ho' => hmem o' (by simp [ho'])) hr ho h
        exact ⟨fin h1 (fun p hp => h2 p (mem_pushR.2 (.inl hp))), fun p hp => h2 p (mem_pushR.2 (.inr hp))⟩
    simp only [runD, stepN_eq] at hr
    split at hr
    · rename_i ob1 av eo hs
      split at hr
      · rename_i x d hx hd1
        have := frc_eq hx
        subst this
        exact go hs (by rw [hd1]; rfl) hr
      · rename_i x k o' d hx hd1
        have := frc_eq hx
        subst this
        split at hr
        · rename_i k2 o2 ho2
          obtain ⟨h1, h2⟩ := frcKO_eq ho2
          subst h1 h2
          exact go hs (by rw [hd1]; rfl) hr
        · exact stop hr
      · rename_i x k o' hx hd1
        have := frc_eq hx
        subst this
        split at hr
        · rename_i k2 o2 ho2
          obtain ⟨h1, h2⟩ := frcKO_eq ho2
          subst h1 h2
          exact go hs (by rw [hd1]; rfl) hr
        · exact stop hr
      · exact stop hr
    · exact stop hr
theorem XD.goN (n : Nat) (hT : TOk E.P T) {l l1 l2 : List Oper} {fr fr' : Nat → AV} {ob ob' : Nat → Option Ob} {nx nt : Nat} {md : Nat → Bool} {obl obl' : List Prop} (hd : ops.toList.all (dstOk ⟨fun _ => .junk, fun _ => none, nx, nt, md⟩) = true)
    (hm : ops.toList.drop (ops.toList.length - l.length) = l) (h1 : l.take n = l1) (h2 : l.drop n = l2) (hr : runF T ops.toList nx nt md [] fr ob l1 = ⟨obl, fr', ob', []⟩) (hf : frcR obl [] = some obl') (ho : AllP obl') (h : XD E ops Q k (runD T ops.toList nx nt md [] tr0 fr ob l1).tr l2 ⟨fr', ob', nx, nt, md⟩) : XD E ops Q k tr0 l ⟨fr, ob, nx, nt, md⟩ := by
  have hl : l = l1 ++ l2 := by rw [← h1, ← h2, List.take_append_drop]
  subst hl
  exact (XD.runN hT hd (fun _ h => List.mem_of_mem_drop (hm ▸ List.mem_append_left _ h)) ((runD_runF _ _ _ _ _).trans (by rw [hr])) (AllP.memR hf ho) h).1
end
theorem XK.join {E : Env} {Q : Exit → ST → Prop} {st : ST} {k : List It} {c : Operand} {x y c' : Code} {b : Bool} (st' : ST) (hc : st.ev c = .c (.bool b)) (ht : b = true → XK E (.code x :: .inv (fun s => Weak E s st') :: .code c' :: k) Q st)
    (hf : b = false → XK E (.code y :: .inv (fun s => Weak E s st') :: .code c' :: k) Q st) (h : XK E (.code c' :: k) Q st') : XK E (.code (.cond c x y) :: .code c' :: k) Q st := by
  have go : ∀ {z : Code}, XK E (.code z :: .inv (fun s => Weak E s st') :: .code c' :: k) Q st → XK E (.code z :: .code c' :: k) Q st := by
    intro z hz
    refine XC.mono (E := E) hz fun e s hs => ?_
    cases e with
    | normal => exact XQ.weak (show Weak E s st' from hs) h
    | _ => exact hs
  exact XK.cond hc (fun hb => go (ht hb)) (fun hb => go (hf hb))
theorem SatR.convT {E : Env} {st : ST} {a : Act} {w : World} {ρ : Rho} (h : SatR E st a w ρ) {st' : ST} {ρ' : Rho} {g : AV → AV} (τ : Nat → Nat) (hnt : st'.nt = st.nt) (hfr : ∀ k, st'.fr k = (st.fr k).map g)
    (leaf : ∀ x v, x.isName = true → R w (E.good w ρ) ρ x v → R w (E.good w ρ') ρ' (g x) v) (hob : ∀ k o, st'.ob k = some o → ObOk w (E.good w ρ') ρ' k o) (hno : ∀ k, st'.ob k = none → ρ' k = none)
    (hsub : ∀ k x b, ρ' k = some x → x.block = some b → ∃ y, ρ (τ k) = some y ∧ y.block = some b) (hτ : ∀ j j' x x' b, ρ' j = some x → ρ' j' = some x' → x.block = some b → x'.block = some b → τ j = τ j' → j = j')
    (hle : ∀ k, k < E.N → ∀ x, E.r0 k = some x → ρ' k = some x ∨ ∃ s v s' v', x = .hdr s v ∧ ρ' k = some (.hdr s' v') ∧ s < s') : SatR E st' a w ρ' := by
  have hG : ∀ b, E.good w ρ b → E.good w ρ' b ∧ w.heap[b]? = w.heap[b]? := fun b ⟨h0, hlt, hno⟩ => ⟨⟨h0, hlt, fun j y hj hy => by
    obtain ⟨z, hz, hzb⟩ := hsub j y b hj hy
    exact hno _ z hz hzb⟩, rfl⟩
  refine ⟨h.keep, hnt ▸ h.tsz, h.dfr.tr hG, h.gl.tr hG, fun k => ?_, hob, hno, fun j j' y y' b hj hj' hy hy' => ?_, fun j y b hj hy => ?_, hle⟩
  · rw [hfr k]; exact (h.fr k).map hG leaf
  · obtain ⟨z, hz, hzb⟩ := hsub j y b hj hy
    obtain ⟨z', hz', hzb'⟩ := hsub j' y' b hj' hy'
    exact hτ j j' y y' b hj hj' hy hy' (h.dis _ _ z z' b hz hz' hzb hzb')
  · obtain ⟨z, hz, hzb⟩ := hsub j y b hj hy
    exact h.own _ z b hz hzb
def stealG (k s q : Nat) : AV → AV
  | .vec j s' => bif Nat.beq j k then (bif Nat.beq s' s then .vec q 0 else .junk) else .vec j s'
  | .vptr j s' sz i off => bif Nat.beq j k then (bif Nat.beq s' s then .vptr q 0 sz i off else .junk) else .vptr j s' sz i off
  | x => x
def ST.steal (st : ST) (k s q : Nat) (o o' : Ob) : ST := { st with fr := fun j => (st.fr j).map (stealG k s q), ob := upd (upd (fun j => (st.ob j).map (Ob.map (stealG k s q))) k (some o')) q (some o) }
theorem Weak.steal {E : Env} {st : ST} (q : Nat) {k e sz s n m : Nat} {f f' : Nat → List AV} (hN : E.N = m) (hk : st.ob k = some (.vec e sz s n f)) (hq : st.ob q = none) (hqm : Nat.ble m q = true) :
    Weak E st (st.steal k s q (.vec e sz 0 n f) (.vec e sz (s + 1) 0 f')) := by
  rintro a w ⟨ρ, h⟩
  obtain ⟨hv, xs, hg, hown, hf, hr⟩ := h.ob k _ hk
  have hρq := h.no q hq
  have hkq : k ≠ q := fun e => by subst e; rw [hk] at hq; cases hq
  let ρ' : Rho := upd (upd ρ k (some (.hdr (s + 1) (.slice none 0 0)))) q (some (.hdr 0 hv))
  have e1 : ρ' q = some (.hdr 0 hv) := upd_same _ _ _
  have e2 : ρ' k = some (.hdr (s + 1) (.slice none 0 0)) := by simp only [ρ']; rw [upd_other _ _ hkq, upd_same]
  have e3 : ∀ j, j ≠ k → j ≠ q → ρ' j = ρ j := fun j h1 h2 => by simp only [ρ']; rw [upd_other _ _ h2, upd_other _ _ h1]
  have hcase : ∀ j x b, ρ' j = some x → x.block = some b → (j = q ∧ ρ k = some (.hdr s hv) ∧ (RV.hdr s hv).block = some b) ∨ (j ≠ k ∧ j ≠ q ∧ ρ j = some x) := by
    intro j x b hj hb
    by_cases h1 : j = q
    · subst h1; rw [e1] at hj; injection hj with hj; subst hj; exact .inl ⟨rfl, hg, hb⟩
    · by_cases h2 : j = k
      · subst h2; rw [e2] at hj; injection hj with hj; subst hj; cases hb
      · rw [e3 j h2 h1] at hj; exact .inr ⟨h2, h1, hj⟩
  have hG : ∀ b, E.good w ρ b → E.good w ρ' b := fun b ⟨h0, hlt, hno⟩ => ⟨h0, hlt, fun j y hj hy => by
    rcases hcase j y b hj hy with ⟨_, h1, h2⟩ | ⟨_, _, h1⟩
    · exact hno k _ h1 h2
    · exact hno j y h1 hy⟩
  have leaf : ∀ x v, x.isName = true → R w (E.good w ρ) ρ x v → R w (E.good w ρ') ρ' (stealG k s q x) v := by
    intro x v hx hxv
    have ne : ∀ {j : Nat} {y : RV}, ρ j = some y → j ≠ q := fun hj e => by subst e; rw [hρq] at hj; cases hj
    cases hxv with
    | @ptr _ j off g hj =>
      refine .ptr ((e3 j (fun e => ?_) (ne hj)).trans hj)
      subst e
      rw [hg] at hj; injection hj with hj; cases hj
    | @mp _ j g hj =>
      refine .mp ((e3 j (fun e => ?_) (ne hj)).trans hj)
      subst e
      rw [hg] at hj; injection hj with hj; cases hj
    | @vptr _ j s' sz' i off g n' cap hj hi =>
      simp only [stealG]
      cases hb : Nat.beq j k with
      | false => exact .vptr ((e3 j (fun e => by subst e; simp at hb) (ne hj)).trans hj) hi
      | true =>
        have := Nat.eq_of_beq_eq_true hb
        subst this
        simp only [cond_true]
        cases hb2 : Nat.beq s' s with
        | false => exact .junk
        | true =>
          rw [hg] at hj
          injection hj with hj
          injection hj with h1 h2
          subst h2
          exact .vptr e1 hi
    | @vptrOld _ j s1 s2 sz' i off hv' v' hj hlt =>
      simp only [stealG]
      cases hb : Nat.beq j k with
      | false => exact .vptrOld ((e3 j (fun e => by subst e; simp at hb) (ne hj)).trans hj) hlt
      | true =>
        have := Nat.eq_of_beq_eq_true hb
        subst this
        rw [hg] at hj
        injection hj with hj
        injection hj with h1 h2
        subst h1
        simp only [cond_true]
        cases hb2 : Nat.beq s1 s with
        | true => have := Nat.eq_of_beq_eq_true hb2; omega
        | false => exact .junk
    | @vec _ j s' hv' hj =>
      simp only [stealG]
      cases hb : Nat.beq j k with
      | false => exact .vec ((e3 j (fun e => by subst e; simp at hb) (ne hj)).trans hj)
      | true =>
        have := Nat.eq_of_beq_eq_true hb
        subst this
        rw [hg] at hj
        injection hj with hj
        injection hj with h1 h2
        subst h1 h2
        simp only [cond_true]
        cases hb2 : Nat.beq s s with
        | false => exact .junk
        | true => exact .vec e1
    | @vecOld _ j s1 s2 hv' v' hj hlt =>
      simp only [stealG]
      cases hb : Nat.beq j k with
      | false => exact .vecOld ((e3 j (fun e => by subst e; simp at hb) (ne hj)).trans hj) hlt
      | true =>
        have := Nat.eq_of_beq_eq_true hb
        subst this
        rw [hg] at hj
        injection hj with hj
        injection hj with h1 h2
        subst h1
        simp only [cond_true]
        cases hb2 : Nat.beq s1 s with
        | true => have := Nat.eq_of_beq_eq_true hb2; omega
        | false => exact .junk
    | _ => simp [AV.isName] at hx
  refine ⟨ρ', h.convT (g := stealG k s q) (fun j => if j = q then k else j) rfl (fun _ => rfl) leaf (fun j o ho => ?_) (fun j ho => ?_) (fun j x b hj hb => ?_) (fun j j' x x' b hj hj' hb hb' ht => ?_) fun j hj x hx => ?_⟩
  · simp only [ST.steal] at ho
    by_cases h1 : j = q
    · subst h1
      rw [upd_same] at ho
      injection ho with ho
      subst ho
      exact ⟨hv, xs, e1, hown, hf, fun i jj x hi hx => (hr i jj x hi hx).tr (fun b hb => ⟨hG b hb, rfl⟩) _ (Le.refl _)⟩
    · rw [upd_other _ _ h1] at ho
      by_cases h2 : j = k
      · subst h2
        rw [upd_same] at ho
        injection ho with ho
        subst ho
        exact ⟨.slice none 0 0, [], e2, ⟨by simp, .inl ⟨rfl, rfl⟩⟩, (fun i hi => absurd hi (by omega)), fun i j x hi => absurd hi (by omega)⟩
      · rw [upd_other _ _ h2] at ho
        simp only [Option.map_eq_some_iff] at ho
        obtain ⟨o1, ho1, rfl⟩ := ho
        exact (h.ob j o1 ho1).map hG leaf (e3 j h2 h1)
  · simp only [ST.steal] at ho
    by_cases h1 : j = q
    · subst h1; rw [upd_same] at ho; cases ho
    · rw [upd_other _ _ h1] at ho
      by_cases h2 : j = k
      · subst h2; rw [upd_same] at ho; cases ho
      · rw [upd_other _ _ h2] at ho
        rw [e3 j h2 h1]
        exact h.no j (by simpa using ho)
  · rcases hcase j x b hj hb with ⟨rfl, h1, h2⟩ | ⟨h1, h2, h3⟩
    · exact ⟨_, by rw [if_pos rfl]; exact h1, h2⟩
    · exact ⟨x, by rw [if_neg h2]; exact h3, hb⟩
  · rcases hcase j x b hj hb with ⟨rfl, _, _⟩ | ⟨h1, h2, _⟩ <;> rcases hcase j' x' b hj' hb' with ⟨rfl, _, _⟩ | ⟨h1', h2', _⟩
    · rfl
    · rw [if_pos rfl, if_neg h2'] at ht; exact absurd ht.symm h1'
    · rw [if_pos rfl, if_neg h2] at ht; exact absurd ht h1
    · rwa [if_neg h2, if_neg h2'] at ht
  · have hjq : j ≠ q := fun e => by have := Nat.le_of_ble_eq_true hqm; omega
    by_cases h2 : j = k
    · subst h2
      rcases h.le j hj x hx with h1 | ⟨s0, v0, s1, v1, h1, h3, h4⟩
      · rw [hg] at h1; injection h1 with h1; exact .inr ⟨s, hv, s + 1, _, h1.symm, e2, Nat.lt_succ_self s⟩
      · rw [hg] at h3; injection h3 with h3; injection h3 with h3 _; exact .inr ⟨s0, v0, s + 1, _, h1, e2, by omega⟩
    · rw [e3 j h2 hjq]; exact h.le j hj x hx
def AvS (x y : AV) : Prop := ∀ w G ρ v, R w G ρ x v → R w G ρ y v
def AvSL : List AV → List AV → Prop
  | [], [] => True
  | x :: l, y :: l' => AvS x y ∧ AvSL l l'
  | _, _ => False
theorem AvS.refl (x : AV) : AvS x x := fun _ _ _ _ h => h
theorem AvSL.refl : ∀ l, AvSL l l
  | [] => trivial
  | x :: l => ⟨AvS.refl x, AvSL.refl l⟩
theorem AvSL.at_ : ∀ {l l' : List AV}, AvSL l l' → l.length = l'.length ∧ ∀ (i : Nat) (y : AV), l'[i]? = some y → ∃ x, l[i]? = some x ∧ AvS x y
  | [], [], _ => ⟨rfl, fun i y h => by simp at h⟩
  | x :: l, y :: l', h => by
    obtain ⟨h1, h2⟩ := AvSL.at_ h.2
    refine ⟨by simp [h1], fun i z hz => ?_⟩
    cases i with
    | zero => simp at hz; subst hz; exact ⟨x, rfl, h.1⟩
    | succ i => exact h2 i z (by simpa using hz)
  | [], _ :: _, h => h.elim
  | _ :: _, [], h => h.elim
theorem AvS.nil {sz : Nat} {f : Nat → List AV} : AvS (.c (.slice none 0 0)) (.rs sz 0 f) := by
  intro w G ρ v h
  rw [h.c_inv]
  exact .rs (fun _ _ => undef) (Nat.le_refl _) (Nat.zero_le _) (fun h => absurd h (by simp)) (fun i hi => absurd hi (by simp)) (fun i j x hi => absurd hi (by simp))
theorem AvS.agg {l l' : List AV} (h : AvSL l l') : AvS (.agg l) (.agg l') := by
  intro w G ρ v hv
  obtain ⟨h1, h2⟩ := h.at_
  obtain ⟨cs, rfl, hs, hc⟩ := hv.agg_inv
  refine .agg (by omega) fun i y hy => ?_
  obtain ⟨x, hx, hxy⟩ := h2 i y hy
  exact hxy _ _ _ _ (hc i x hx)
theorem AvS.rs {sz n : Nat} {f f' : Nat → List AV} (h : ∀ i, i < n → AvSL (f i) (f' i)) : AvS (.rs sz n f) (.rs sz n f') := by
  intro w G ρ v hv
  cases hv with
  | rs val hn hm hc hl hr =>
    refine .rs val hn hm hc (fun i hi => by rw [← ((h i hi).at_).1]; exact hl i hi) fun i j y hi hy => ?_
    obtain ⟨x, hx, hxy⟩ := (h i hi).at_.2 j y hy
    exact hxy _ _ _ _ (hr i j x hi hx)
theorem Does.weaken {P : Program} {f : FuncId} {args : List AV} {res res' : AV} (h : Does P f args res) (hr : AvS res res') : Does P f args res' :=
  ⟨h.1, fun w G vs hs hG hgl ha => (h.2 w G vs hs hG hgl ha).mono fun e w' ⟨v, h1, h2, h3⟩ => ⟨v, h1, h2, hr _ _ _ _ h3⟩⟩
theorem Does.argS {P : Program} {f : FuncId} {args args' : List AV} {res : AV} (h : Does P f args res) (ha : AvSL args' args) : Does P f args' res :=
  ⟨h.1, fun w G vs hs hG hgl hx => h.2 w G vs (by rw [← ha.at_.1]; exact hs) hG hgl fun i y hy => by
    obtain ⟨x, hx', hxy⟩ := ha.at_.2 i y hy
    exact hxy _ _ _ _ (hx i x hx')⟩
def obF (B e sz : Nat) (F : Nat → Nat × (Nat → List AV)) (O : List (Nat × Ob)) : Nat → Option Ob := fun j => bif Nat.ble B j then some (.vec e sz 0 (F (j - B)).1 (F (j - B)).2) else mkOb O j
def mapF (B : Nat) (kk : KK) (d : Value → Bool) (enc : Value → Nat) : Ob := .mapo kk (.slice none 0 0) d (fun v => .vec (B + enc v) 0) []
def obQ (B e sz : Nat) (F : Nat → Nat × (Nat → List AV)) (q k : Nat) (m : Nat) (M R : Ob) (O : List (Nat × Ob)) : Nat → Option Ob := fun j =>
  bif Nat.ble B j then (bif Nat.beq j (B + m) then none else some (.vec e sz 0 (F (j - B)).1 (F (j - B)).2)) else bif Nat.beq j q then some R else bif Nat.beq j k then some M else mkOb O j
section
variable {E : Env} {st st' : ST} {a : Act} {w : World} {ρ ρ' : Rho}
theorem ObOk.keepP {G G' : Nat → Prop} (hG : ∀ b, G b → G' b) {p : Nat → Bool} (hp : ∀ j, p j = true → ρ' j = ρ j) {j : Nat} {o : Ob} (h : ObOk w G ρ j o) (hj : p j = true) (hk : o.ks p = true) : ObOk w G' ρ' j o := by
  have mv : ∀ {x v}, R w G ρ x v → x.ks p = true → R w G' ρ' x v := fun hx hks => (hx.tr (fun b hb => ⟨hG b hb, rfl⟩) _ (Le.refl _)).cut p _ hp hks
  cases o with
  | cells t cs =>
    obtain ⟨g, arr, hk', hh, hs, hr⟩ := h
    exact ⟨g, arr, (hp j hj).trans hk', hh, hs, fun i x hx => mv (hr i x hx) (AV.ksL_at hk hx)⟩
  | vec e sz s n f =>
    obtain ⟨hv, xs, hk', hown, hf, hr⟩ := h
    exact ⟨hv, xs, (hp j hj).trans hk', hown, hf, fun i j x hi hx => ((hr i j x hi hx).tr (fun b hb => ⟨hG b hb, rfl⟩) _ (Le.refl _))⟩
  | mapo => simp [Ob.ks] at hk
  | mapb kk zv d f =>
    obtain ⟨g, es, clock, hk', hh, hs, hr⟩ := h
    exact ⟨g, es, clock, (hp j hj).trans hk', hh, hs, fun z hz => by
      obtain ⟨r, h1, h2, h3⟩ := hr z hz
      exact ⟨r, h1, h2, h3.tr (fun b hb => ⟨hG b hb, rfl⟩) _ (Le.refl _)⟩⟩
  | lrec mk b cs =>
    obtain ⟨arr, hk', hh, hs, hr⟩ := h
    exact ⟨arr, (hp j hj).trans hk', hh, hs, fun i x hx => mv (hr i x hx) (AV.ksL_at hk hx)⟩
theorem SatR.reob (h : SatR E st a w ρ) (p : Nat → Bool) (τ : Nat → Nat) (hnt : st'.nt = st.nt) (hp : ∀ j, p j = true → ρ' j = ρ j)
    (hfr : ∀ j, st'.fr j = .junk ∨ (AvIs (st.fr j) (st'.fr j) ∧ (st'.fr j).ks p = true))
    (hsub : ∀ j x, ρ' j = some x → ∀ b, x.block = some b → ∃ y, ρ (τ j) = some y ∧ y.block = some b)
    (hτ : ∀ j j' x x' b b', ρ' j = some x → ρ' j' = some x' → x.block = some b → x'.block = some b' → τ j = τ j' → j = j')
    (hob : (∀ b, E.good w ρ b → E.good w ρ' b) → ∀ j o, st'.ob j = some o → ObOk w (E.good w ρ') ρ' j o)
    (hno : ∀ j, st'.ob j = none → ρ' j = none) (hN : ∀ j, j < E.N → p j = true) : SatR E st' a w ρ' := by
  have hG : ∀ b, E.good w ρ b → E.good w ρ' b := fun b ⟨h0, hlt, hno⟩ => ⟨h0, hlt, fun j y hj hy => by
    obtain ⟨z, hz, hzb⟩ := hsub j y hj b hy
    exact hno _ z hz hzb⟩
  refine ⟨h.keep, hnt ▸ h.tsz, h.dfr.tr (fun b hb => ⟨hG b hb, rfl⟩), h.gl.tr (fun b hb => ⟨hG b hb, rfl⟩), fun j => ?_, hob hG, hno, fun j j' y y' b hj hj' hy hy' => ?_, fun j y b hj hy => ?_, fun j hj x hx => by rw [hp j (hN j hj)]; exact h.le j hj x hx⟩
  · rcases hfr j with h1 | ⟨h1, h2⟩
    · rw [h1]; exact .junk
    · exact ((h1.ok (h.fr j)).tr (fun b hb => ⟨hG b hb, rfl⟩) _ (Le.refl _)).cut p _ hp h2
  · obtain ⟨z, hz, hzb⟩ := hsub j y hj b hy
    obtain ⟨z', hz', hzb'⟩ := hsub j' y' hj' b hy'
    exact hτ j j' y y' b b hj hj' hy hy' (h.dis _ _ z z' b hz hz' hzb hzb')
  · obtain ⟨z, hz, hzb⟩ := hsub j y hj b hy
    exact h.own _ z b hz hzb
theorem mkFr_cases {L : List (Nat × AV)} : ∀ j, mkFr L j = .junk ∨ ∃ x ∈ L, x.2 = mkFr L j := by
  intro j
  induction L with
  | nil => exact .inl rfl
  | cons y L ih =>
    obtain ⟨i, x⟩ := y
    simp only [mkFr]
    cases hb : Nat.beq i j with
    | true => exact .inr ⟨(i, x), by simp, by rw [cond_true]⟩
    | false =>
      rw [cond_false]
      rcases ih with h | ⟨z, hz, he⟩
      · exact .inl h
      · exact .inr ⟨z, by simp [hz], he⟩
theorem mkOb_cases {O : List (Nat × Ob)} {j : Nat} {o : Ob} (h : mkOb O j = some o) : (j, o) ∈ O := by
  induction O with
  | nil => cases h
  | cons y O ih =>
    obtain ⟨i, x⟩ := y
    simp only [mkOb] at h
    cases hb : Nat.beq i j with
    | true =>
      rw [hb, cond_true] at h
      injection h with h
      subst h
      rw [← Nat.eq_of_beq_eq_true hb]
      simp
    | false =>
      rw [hb, cond_false] at h
      simp [ih h]
theorem ble_false {m n : Nat} (h : n < m) : Nat.ble m n = false := by
  cases hb : Nat.ble m n with
  | false => rfl
  | true => have := Nat.le_of_ble_eq_true hb; omega
theorem beq_false {m n : Nat} (h : m ≠ n) : Nat.beq m n = false := by
  cases hb : Nat.beq m n with
  | false => rfl
  | true => exact absurd (Nat.eq_of_beq_eq_true hb) h
theorem row_frozen (h : SatR E st a w ρ) {j e sz s n : Nat} {f : Nat → List AV} (ho : st.ob j = some (.vec e sz s n f)) {ρ' : Rho} {v : Value} (hv : R w (E.good w ρ) ρ (.vec j s) v)
    (hG : ∀ b, E.good w ρ b → E.good w ρ' b) (hno : ∀ b hv, ρ j = some (.hdr s hv) → hv.ownBlock = some b → ∀ i x, ρ' i = some x → x.block ≠ some b) {ρ1 : Rho} : R w (E.good w ρ') ρ1 (.rs sz n f) v := by
  obtain ⟨hv', xs, hg, hown, hf, hr⟩ := h.ob j _ ho
  have := hv.vec_inv hg
  subst this
  obtain ⟨hxl, hcase⟩ := hown
  rcases hcase with ⟨rfl, rfl⟩ | ⟨g, cap, cur, rfl, _, hh, hnc, hm, hsz, htake⟩
  · exact .rs (fun _ _ => undef) (Nat.le_refl _) (Nat.zero_le _) (fun h0 => absurd h0 (by omega)) hf (fun i j x hi => absurd hi (by omega))
  · have hidx : ∀ i q, i < n → q < sz → i * sz + q < n * sz := by
      intro i q hi hq
      have : (i + 1) * sz ≤ n * sz := Nat.mul_le_mul_right sz hi
      rw [Nat.add_mul] at this; omega
    have hblk : (RV.hdr s (Value.slice (some ⟨g, 0, none⟩) n cap)).block = some g := rfl
    refine .rs (fun i q => xs.getD (i * sz + q) undef) hnc hm (fun _ => ⟨_, rfl, ⟨?_, ?_, ?_⟩, fun i q hi hq => ?_⟩) hf (fun i q x hi hx => (hr i q x hi hx).tr (fun b hb => ⟨hG b hb, rfl⟩) _ (Le.refl _))
    · exact .inr (h.own j _ g hg rfl)
    · exact h.lt hg rfl
    · intro i y hi hy
      exact hno g _ hg rfl i y hi hy
    · have hlt := hidx i q hi hq
      have hlc : i * sz + q < cur.size := by
        have := Nat.mul_le_mul_right sz hnc
        rw [hsz]; omega
      have : cur[i * sz + q]? = xs[i * sz + q]? := by
        rw [← htake, List.getElem?_take, if_pos hlt]; simp
      rw [Addr.add_lit, Nat.zero_add]
      simp only [World.cell?, hh]
      simp [List.getD, ← this, hlc]
def smallN (B j : Nat) : Bool := Nat.blt j B
def keptF (B : Nat) (L : List (Nat × AV)) (k : Nat) (O : List (Nat × Ob)) : Bool :=
  L.all (fun x => x.2.ks (smallN B)) && O.all (fun o => o.2.ks (smallN B)) && O.all (fun o => smallN B o.1) && smallN B k
theorem smallN_lt {B j : Nat} (h : smallN B j = true) : j < B := Nat.lt_of_succ_le (Nat.le_of_ble_eq_true h)
theorem smallN_of {B j : Nat} (h : j < B) : smallN B j = true := Nat.ble_eq_true_of_le h
theorem keptF_ok {B : Nat} {L : List (Nat × AV)} {k : Nat} {O : List (Nat × Ob)} (h : keptF B L k O = true) : (∀ x ∈ L, x.2.ks (smallN B) = true) ∧ (∀ o ∈ O, o.2.ks (smallN B) = true) ∧ (∀ o ∈ O, o.1 < B) ∧ k < B := by
  simp only [keptF, Bool.and_eq_true, List.all_eq_true] at h
  exact ⟨h.1.1.1, h.1.1.2, fun o ho => smallN_lt (h.1.2 o ho), smallN_lt h.2⟩
theorem obF_lt {B e sz : Nat} {F : Nat → Nat × (Nat → List AV)} {O : List (Nat × Ob)} {j : Nat} (h : j < B) : obF B e sz F O j = mkOb O j := by
  unfold obF; rw [ble_false h, cond_false]
theorem obF_ge {B e sz : Nat} {F : Nat → Nat × (Nat → List AV)} {O : List (Nat × Ob)} {j : Nat} (h : B ≤ j) : obF B e sz F O j = some (.vec e sz 0 (F (j - B)).1 (F (j - B)).2) := by
  unfold obF; rw [Nat.ble_eq_true_of_le h, cond_true]
theorem mkOb_cons {k j : Nat} {o : Ob} {O : List (Nat × Ob)} : mkOb ((k, o) :: O) j = if j = k then some o else mkOb O j := by
  simp only [mkOb]
  by_cases h : j = k
  · subst h; simp
  · rw [beq_false (Ne.symm h), cond_false, if_neg h]
theorem Weak.famIn {L : List (Nat × AV)} {O : List (Nat × Ob)} {B nx nt n k e sz : Nat} {md : Nat → Bool} {kk : KK} {d : Value → Bool} {f : Value → AV} (enc : Value → Nat) (F : Nat → Nat × (Nat → List AV)) (hF : ∀ m, (F m).1 = 0) (hN : E.N = n) (hn : Nat.ble n B = true) (hk : keptF B L k O = true) (hd : ∀ v, d v = false) :
    Weak E (ST.of L ((k, .mapb kk (.slice none 0 0) d f) :: O) nx nt md) ⟨mkFr L, obF B e sz F ((k, mapF B kk d enc) :: O), nx, nt, md⟩ := by
  rintro a w ⟨ρ, h⟩
  obtain ⟨k1, k2, k3, k4⟩ := keptF_ok hk
  have hob : (ST.of L ((k, .mapb kk (.slice none 0 0) d f) :: O) nx nt md).ob = mkOb ((k, .mapb kk (.slice none 0 0) d f) :: O) := rfl
  have hbig : ∀ j, B ≤ j → ρ j = none := fun j hj => h.no j (by
    rw [hob, mkOb_cons, if_neg (by omega)]
    cases hm : mkOb O j with
    | none => rfl
    | some o => have := k3 _ (mkOb_cases hm); simp only at this; omega)
  let ρ' : Rho := fun j => if B ≤ j then some (.hdr 0 (.slice none 0 0)) else ρ j
  have e1 : ∀ j, j < B → ρ' j = ρ j := fun j hj => by simp only [ρ']; rw [if_neg (by omega)]
  have e2 : ∀ j, B ≤ j → ρ' j = some (.hdr 0 (.slice none 0 0)) := fun j hj => by simp only [ρ']; rw [if_pos hj]
  refine ⟨ρ', h.reob (smallN B) id rfl (fun j hj => e1 j (smallN_lt hj)) (fun j => ?_) (fun j x hj b hb => ?_) (fun j j' x x' b b' _ _ _ _ h => h) (fun hG j o ho => ?_) (fun j ho => ?_) fun j hj => smallN_of (by have := Nat.le_of_ble_eq_true hn; omega)⟩
  · rcases mkFr_cases (L := L) j with h1 | ⟨x, hx, h1⟩
    · exact .inl h1
    · exact .inr ⟨AvIs.refl _, by show AV.ks (smallN B) (mkFr L j) = true; rw [← h1]; exact k1 x hx⟩
  · rcases Nat.lt_or_ge j B with hlt | hge
    · exact ⟨x, (e1 j hlt) ▸ hj, hb⟩
    · rw [e2 j hge] at hj; injection hj with hj; subst hj; cases hb
  · rcases Nat.lt_or_ge j B with hlt | hge
    · replace ho : obF B e sz F ((k, mapF B kk d enc) :: O) j = _ := ho
      rw [obF_lt hlt, mkOb_cons] at ho
      by_cases hjk : j = k
      · subst hjk
        rw [if_pos rfl] at ho
        injection ho with ho
        subst ho
        obtain ⟨g, es, clock, hg, hh, hs, hr⟩ := h.ob j _ (by rw [hob, mkOb_cons, if_pos rfl])
        refine ⟨g, es, clock, (e1 j hlt).trans hg, hh, hs, fun v hv => ?_, fun _ h => by cases h⟩
        obtain ⟨r, r1, r2, _⟩ := hr v hv
        rw [hd v] at r2
        have : r = none := by cases r <;> simp_all
        subst this
        exact ⟨none, r1, by rw [hd v]; rfl, .vec (e2 _ (Nat.le_add_right _ _))⟩
      · rw [if_neg hjk] at ho
        have hmem := mkOb_cases ho
        exact ObOk.keepP hG (fun j hj => e1 j (smallN_lt hj)) (h.ob j o (by rw [hob, mkOb_cons, if_neg hjk]; exact ho)) (smallN_of hlt) (k2 _ hmem)
    · replace ho : obF B e sz F ((k, mapF B kk d enc) :: O) j = _ := ho
      rw [obF_ge hge] at ho
      injection ho with ho
      subst ho
      exact ⟨.slice none 0 0, [], e2 j hge, ⟨by simp [hF], .inl ⟨rfl, hF _⟩⟩, (fun i hi => absurd hi (by rw [hF]; omega)), fun i j x hi => absurd hi (by rw [hF]; omega)⟩
  · rcases Nat.lt_or_ge j B with hlt | hge
    · replace ho : obF B e sz F ((k, mapF B kk d enc) :: O) j = _ := ho
      rw [obF_lt hlt, mkOb_cons] at ho
      rw [e1 j hlt]
      refine h.no j ?_
      rw [hob, mkOb_cons]
      by_cases hjk : j = k
      · rw [if_pos hjk] at ho; cases ho
      · rwa [if_neg hjk] at ho ⊢
    · replace ho : obF B e sz F ((k, mapF B kk d enc) :: O) j = _ := ho
      rw [obF_ge hge] at ho
      cases ho
theorem ks_two {p p' : Nat → Bool} {x : AV} : x.ks p = true → x.ks p' = true → x.ks (fun j => p j && p' j) = true := by
  refine AV.rec (motive_1 := fun x => x.ks p = true → x.ks p' = true → x.ks (fun j => p j && p' j) = true)
    (motive_2 := fun l => AV.ksL p l = true → AV.ksL p' l = true → AV.ksL (fun j => p j && p' j) l = true) ?_ ?_ ?_ ?_ ?_ ?_ ?_ ?_ ?_ ?_ ?_ ?_ ?_ ?_ x
  all_goals intros; simp_all [AV.ks, AV.ksL]
theorem ksL_two {p p' : Nat → Bool} : ∀ {l : List AV}, AV.ksL p l = true → AV.ksL p' l = true → AV.ksL (fun j => p j && p' j) l = true
  | [], _, _ => rfl
  | a :: l, h, h' => by
    simp only [AV.ksL, Bool.and_eq_true] at h h' ⊢
    exact ⟨ks_two h.1 h'.1, ksL_two h.2 h'.2⟩
theorem obks_two {p p' : Nat → Bool} {o : Ob} (h : o.ks p = true) (h' : o.ks p' = true) : o.ks (fun j => p j && p' j) = true := by
  cases o with
  | cells t cs => exact ksL_two h h'
  | vec => rfl
  | mapo => simp [Ob.ks] at h
  | mapb => rfl
  | lrec mk b cs => exact ksL_two h h'
theorem Weak.famOpen {L : List (Nat × AV)} {O : List (Nat × Ob)} {B nx nt n k e sz : Nat} {md : Nat → Bool} {kk : KK} {d : Value → Bool} {enc : Value → Nat} {F : Nat → Nat × (Nat → List AV)} (q : Nat) (v0 : Value) (hN : E.N = n) (hn : Nat.ble n B = true) (hk : keptF B L k O = true)
    (hq : smallN B q = true) (hqk : Nat.beq q k = false) (hqn : Nat.ble n q = true) (hqo : (mkOb O q).isNone = true) (hL : (L.all (fun x => x.2.ks (fun j => !Nat.beq j q)) && O.all (fun x => x.2.ks (fun j => !Nat.beq j q))) = true) (hv0 : kk.has v0 = true) (henc : ∀ u v, kk.has u = true → kk.has v = true → enc u = enc v → u = v) :
    Weak E ⟨mkFr L, obF B e sz F ((k, mapF B kk d enc) :: O), nx, nt, md⟩ ⟨mkFr L, obQ B e sz F q k (enc v0) (.mapo kk (.slice none 0 0) d (fun v => bif keyEq v v0 then .vec q 0 else .vec (B + enc v) 0) []) (.vec e sz 0 (F (enc v0)).1 (F (enc v0)).2) O, nx, nt, md⟩ := by
  rintro a w ⟨ρ, h⟩
  obtain ⟨k1, k2, k3, k4⟩ := keptF_ok hk
  have hq' := smallN_lt hq
  have hqk' : q ≠ k := fun e => by subst e; simp at hqk
  have hqo' : mkOb O q = none := by simpa using hqo
  have hlt : ∀ j, j < B → (ST.mk (mkFr L) (obF B e sz F ((k, mapF B kk d enc) :: O)) nx nt md).ob j = mkOb ((k, mapF B kk d enc) :: O) j := fun j hj => obF_lt hj
  have hρq : ρ q = none := h.no q (by rw [hlt q hq', mkOb_cons, if_neg hqk']; exact hqo')
  obtain ⟨hv, xs, hg0, hrow⟩ := h.ob (B + enc v0) _ (obF_ge (Nat.le_add_right _ _))
  have hrow' := hrow
  rw [Nat.add_sub_cancel_left] at hrow'
  let ρ' : Rho := fun j => if j = q then ρ (B + enc v0) else if j = B + enc v0 then none else ρ j
  have e0 : ρ' q = ρ (B + enc v0) := by simp [ρ']
  have e1 : ∀ j, j ≠ q → j ≠ B + enc v0 → ρ' j = ρ j := fun j h1 h2 => by simp only [ρ']; rw [if_neg h1, if_neg h2]
  have e2 : ρ' (B + enc v0) = none := by simp only [ρ']; rw [if_neg (by omega)]; simp
  let τ : Nat → Nat := fun j => if j = q then B + enc v0 else j
  have pk : ∀ j, (smallN B j && !Nat.beq j q) = true → j < B ∧ j ≠ q := fun j hj => by
    simp only [Bool.and_eq_true, Bool.not_eq_true'] at hj
    exact ⟨smallN_lt hj.1, fun e => by subst e; simp at hj⟩
  simp only [Bool.and_eq_true, List.all_eq_true] at hL
  refine ⟨ρ', h.reob (fun j => smallN B j && !Nat.beq j q) τ rfl (fun j hj => e1 j (pk j hj).2 (by have := (pk j hj).1; omega)) (fun j => ?_) (fun j x hj b hb => ?_) (fun j j' x x' b b' hj hj' _ _ ht => ?_) (fun hG j o ho => ?_) (fun j ho => ?_) fun j hj => ?_⟩
  · rcases mkFr_cases (L := L) j with h1 | ⟨x, hx, h1⟩
    · exact .inl h1
    · exact .inr ⟨AvIs.refl _, by show AV.ks _ (mkFr L j) = true; rw [← h1]; exact ks_two (k1 x hx) (hL.1 x hx)⟩
  · by_cases h1 : j = q
    · subst h1; exact ⟨x, by simp only [τ, if_true]; rw [← e0]; exact hj, hb⟩
    · by_cases h2 : j = B + enc v0
      · subst h2; rw [e2] at hj; cases hj
      · exact ⟨x, by simp only [τ]; rw [if_neg h1, ← e1 j h1 h2]; exact hj, hb⟩
  · simp only [τ] at ht
    by_cases h1 : j = q <;> by_cases h2 : j' = q
    · rw [h1, h2]
    · rw [if_pos h1, if_neg h2] at ht; rw [← ht, e2] at hj'; cases hj'
    · rw [if_neg h1, if_pos h2] at ht; rw [ht, e2] at hj; cases hj
    · rw [if_neg h1, if_neg h2] at ht; exact ht
  · simp only [obQ] at ho
    rcases Nat.lt_or_ge j B with hj | hj
    · rw [ble_false hj, cond_false] at ho
      by_cases h1 : j = q
      · subst h1
        rw [show Nat.beq j j = true by simp, cond_true] at ho
        injection ho with ho
        subst ho
        refine ⟨hv, xs, e0.trans hg0, hrow'.1, hrow'.2.1, fun i jj x hi hx => (hrow'.2.2 i jj x hi hx).tr (fun b hb => ⟨hG b hb, rfl⟩) _ (Le.refl _)⟩
      · rw [beq_false h1, cond_false] at ho
        by_cases h2 : j = k
        · subst h2
          rw [show Nat.beq j j = true by simp, cond_true] at ho
          injection ho with ho
          subst ho
          obtain ⟨g, es, clock, hg, hh, hs, hr, _⟩ := h.ob j _ (by rw [hlt j hj, mkOb_cons, if_pos rfl])
          refine ⟨g, es, clock, (e1 j h1 (by omega)).trans hg, hh, hs, fun v hv => ?_, fun _ h => by cases h⟩
          obtain ⟨r, r1, r2, r3⟩ := hr v hv
          refine ⟨r, r1, r2, ?_⟩
          cases hkq : keyEq v v0 with
          | true =>
            have := (keyEq_iff hv (KK.has_ok hv0)).1 hkq
            subst this
            simp only [hkq, cond_true]
            rw [r3.vec_inv hg0]
            exact .vec (e0.trans hg0)
          | false =>
            simp only [hkq, cond_false]
            have hne : enc v ≠ enc v0 := fun e => by
              have := henc v v0 (KK.has_of hv) hv0 e
              rw [(keyEq_iff hv (KK.has_ok hv0)).2 this] at hkq; cases hkq
            obtain ⟨hv1, xs1, hg1, _⟩ := h.ob (B + enc v) _ (obF_ge (Nat.le_add_right _ _))
            rw [r3.vec_inv hg1]
            exact .vec ((e1 _ (by omega) (by omega)).trans hg1)
        · rw [beq_false h2, cond_false] at ho
          have hmem := mkOb_cases ho
          have hold := h.ob j o (by rw [hlt j hj, mkOb_cons, if_neg h2]; exact ho)
          exact ObOk.keepP hG (fun i hi => e1 i (pk i hi).2 (by have := (pk i hi).1; omega)) hold (by simp only [Bool.and_eq_true, Bool.not_eq_true']; exact ⟨smallN_of hj, beq_false h1⟩) (obks_two (k2 _ hmem) (hL.2 _ hmem))
    · rw [Nat.ble_eq_true_of_le hj, cond_true] at ho
      by_cases h1 : j = B + enc v0
      · subst h1; simp at ho
      · rw [beq_false h1, cond_false] at ho
        injection ho with ho
        subst ho
        obtain ⟨hv1, xs1, hg1, q1, q2, q3⟩ := h.ob j _ (obF_ge hj)
        exact ⟨hv1, xs1, (e1 j (by omega) h1).trans hg1, q1, q2, fun i jj x hi hx => (q3 i jj x hi hx).tr (fun b hb => ⟨hG b hb, rfl⟩) _ (Le.refl _)⟩
  · simp only [obQ] at ho
    rcases Nat.lt_or_ge j B with hj | hj
    · rw [ble_false hj, cond_false] at ho
      by_cases h1 : j = q
      · subst h1; simp at ho
      · rw [beq_false h1, cond_false] at ho
        by_cases h2 : j = k
        · subst h2; simp at ho
        · rw [beq_false h2, cond_false] at ho
          rw [e1 j h1 (by omega)]
          exact h.no j (by rw [hlt j hj, mkOb_cons, if_neg h2]; exact ho)
    · rw [Nat.ble_eq_true_of_le hj, cond_true] at ho
      by_cases h1 : j = B + enc v0
      · subst h1; exact e2
      · rw [beq_false h1, cond_false] at ho; cases ho
  · have h1 := Nat.le_of_ble_eq_true hqn
    have h2 := Nat.le_of_ble_eq_true hn
    simp only [Bool.and_eq_true, Bool.not_eq_true']
    exact ⟨smallN_of (by omega), beq_false (by omega)⟩
theorem Weak.famOut {L : List (Nat × AV)} {O : List (Nat × Ob)} {B nx nt n k e sz : Nat} {md : Nat → Bool} {kk : KK} {d : Value → Bool} {enc : Value → Nat} {F : Nat → Nat × (Nat → List AV)} (hN : E.N = n) (hn : Nat.ble n B = true) (hk : keptF B L k O = true) :
    Weak E ⟨mkFr L, obF B e sz F ((k, mapF B kk d enc) :: O), nx, nt, md⟩ (ST.of L ((k, .mapb kk (.slice none 0 0) d (fun v => .rs sz (F (enc v)).1 (F (enc v)).2)) :: O) nx nt md) := by
  rintro a w ⟨ρ, h⟩
  obtain ⟨k1, k2, k3, k4⟩ := keptF_ok hk
  have hob : (ST.of L ((k, .mapb kk (.slice none 0 0) d (fun v => .rs sz (F (enc v)).1 (F (enc v)).2)) :: O) nx nt md).ob = mkOb ((k, .mapb kk (.slice none 0 0) d (fun v => .rs sz (F (enc v)).1 (F (enc v)).2)) :: O) := rfl
  have hlt : ∀ j, j < B → (ST.mk (mkFr L) (obF B e sz F ((k, mapF B kk d enc) :: O)) nx nt md).ob j = mkOb ((k, mapF B kk d enc) :: O) j := fun j hj => obF_lt hj
  have hbig : ∀ j, B ≤ j → mkOb O j = none := fun j hj => by
    cases hm : mkOb O j with
    | none => rfl
    | some o => have := k3 _ (mkOb_cases hm); simp only at this; omega
  let ρ' : Rho := fun j => if j < B then ρ j else none
  have e1 : ∀ j, j < B → ρ' j = ρ j := fun j hj => by simp [ρ', hj]
  have e2 : ∀ j x, ρ' j = some x → j < B ∧ ρ j = some x := fun j x hx => by
    by_cases hj : j < B
    · exact ⟨hj, (e1 j hj) ▸ hx⟩
    · simp [ρ', hj] at hx
  have hsub : ∀ b, E.good w ρ b → E.good w ρ' b := fun b ⟨h0, hlt, hno⟩ => ⟨h0, hlt, fun j y hj hy => hno j y (e2 j y hj).2 hy⟩
  refine ⟨ρ', h.reob (smallN B) id rfl (fun j hj => e1 j (smallN_lt hj)) (fun j => ?_) (fun j x hj b hb => ⟨x, (e2 j x hj).2, hb⟩) (fun j j' x x' b b' _ _ _ _ h => h) (fun hG j o ho => ?_) (fun j ho => ?_) fun j hj => smallN_of (by have := Nat.le_of_ble_eq_true hn; omega)⟩
  · rcases mkFr_cases (L := L) j with h1 | ⟨x, hx, h1⟩
    · exact .inl h1
    · exact .inr ⟨AvIs.refl _, by show AV.ks (smallN B) (mkFr L j) = true; rw [← h1]; exact k1 x hx⟩
  · rw [hob, mkOb_cons] at ho
    by_cases hjk : j = k
    · subst hjk
      rw [if_pos rfl] at ho
      injection ho with ho
      subst ho
      obtain ⟨g, es, clock, hg, hh, hs, hr, _⟩ := h.ob j _ (by rw [hlt j k4, mkOb_cons, if_pos rfl])
      refine ⟨g, es, clock, (e1 j k4).trans hg, hh, hs, fun v hv => ?_⟩
      obtain ⟨r, r1, r2, r3⟩ := hr v hv
      refine ⟨r, r1, r2, ?_⟩
      have := row_frozen h (j := B + enc v) (s := 0) (obF_ge (Nat.le_add_right _ _)) r3 hsub (fun b hv1 hρ hb i x hi hx => by
        obtain ⟨hi1, hi2⟩ := e2 i x hi
        have := h.dis i (B + enc v) x _ b hi2 hρ hx (by rw [RV.block]; exact hb)
        omega) (ρ1 := Rho.none)
      rwa [Nat.add_sub_cancel_left] at this
    · rw [if_neg hjk] at ho
      have hmem := mkOb_cases ho
      have hj := k3 _ hmem
      exact ObOk.keepP hG (fun j hj => e1 j (smallN_lt hj)) (h.ob j o (by rw [hlt j hj, mkOb_cons, if_neg hjk]; exact ho)) (smallN_of hj) (k2 _ hmem)
  · rw [hob, mkOb_cons] at ho
    by_cases hjk : j = k
    · rw [if_pos hjk] at ho; cases ho
    · rw [if_neg hjk] at ho
      by_cases hj : j < B
      · rw [e1 j hj]
        exact h.no j (by rw [hlt j hj, mkOb_cons, if_neg hjk]; exact ho)
      · simp [ρ', hj]
def keptC (B : Nat) (L : List (Nat × AV)) (k q n : Nat) (O : List (Nat × Ob)) : Bool :=
  (L.all (fun x => x.2.ks (fun j => smallN B j && (Nat.beq j k || (mkOb O j).isSome))) && O.all (fun o => o.2.ks (fun j => smallN B j && (Nat.beq j k || (mkOb O j).isSome)))) &&
  (O.all (fun o => smallN B o.1) && smallN B k) && ((mkOb O q).isNone && !Nat.beq q k && smallN B q) && ((List.range n).all (fun j => Nat.beq j k || (mkOb O j).isSome) && Nat.ble n B)
theorem Weak.famClose {st : ST} {L : List (Nat × AV)} {O : List (Nat × Ob)} {B nx nt n k e sz : Nat} {md : Nat → Bool} {kk : KK} {d d' : Value → Bool} {enc : Value → Nat} {F : Nat → Nat × (Nat → List AV)} {s m : Nat} {f : Nat → List AV} {f2 : Value → AV} (q : Nat) (v0 : Value) (F' : Nat → Nat × (Nat → List AV))
    (hN : E.N = n) (hnt : nt = st.nt) (hk : keptC B L k q n O = true) (hL : FrIs st L) (hO : ObIs st O) (hq : st.ob q = some (.vec e sz s m f)) (hm : st.ob k = some (.mapo kk (.slice none 0 0) d' f2 []))
    (hbig : ∀ j, B ≤ j → st.ob j = (bif Nat.beq j (B + enc v0) then none else some (.vec e sz 0 (F (j - B)).1 (F (j - B)).2)))
    (hf2 : ∀ v, kk.has v = true → f2 v = bif keyEq v v0 then .vec q s else .vec (B + enc v) 0) (hd : ∀ v, kk.has v = true → d v = d' v) (hF1 : (F' (enc v0)).1 = m) (hF2 : ∀ i, i < m → (F' (enc v0)).2 i = f i) (hF : ∀ j, j ≠ enc v0 → F' j = F j)
    (hv0 : kk.has v0 = true) (henc : ∀ u v, kk.has u = true → kk.has v = true → enc u = enc v → u = v) :
    Weak E st ⟨mkFr L, obF B e sz F' ((k, mapF B kk d enc) :: O), nx, nt, md⟩ := by
  rintro a w ⟨ρ, h⟩
  simp only [keptC, Bool.and_eq_true, List.all_eq_true, Bool.not_eq_true'] at hk
  obtain ⟨⟨⟨⟨k1, k2⟩, k3, k4⟩, ⟨k5, k6⟩, k7⟩, k8, k9⟩ := hk
  have k4 := smallN_lt k4
  have k7 := smallN_lt k7
  have k5 : mkOb O q = none := by simpa using k5
  have k6 : q ≠ k := fun e => by subst e; simp at k6
  have k9 := Nat.le_of_ble_eq_true k9
  obtain ⟨hv, xs, hg0, hrow⟩ := h.ob q _ hq
  let P : Nat → Bool := fun j => smallN B j && (Nat.beq j k || (mkOb O j).isSome)
  have hPo : ∀ j, j < B → P j = false → mkOb O j = none ∧ j ≠ k := fun j hj hp => by
    have hs := smallN_of hj
    simp only [P, hs, Bool.true_and, Bool.or_eq_false_iff] at hp
    exact ⟨by simpa using hp.2, fun e => by subst e; simp at hp⟩
  have hP : ∀ j, P j = true → j < B ∧ (j = k ∨ (mkOb O j).isSome = true) := fun j hp => by
    simp only [P, Bool.and_eq_true, Bool.or_eq_true] at hp
    exact ⟨smallN_lt hp.1, hp.2.imp Nat.eq_of_beq_eq_true id⟩
  have hPq : P q = false := by
    cases hp : P q with
    | false => rfl
    | true => rcases (hP q hp).2 with h1 | h1
              · exact absurd h1 k6
              · rw [k5] at h1; cases h1
  let ρ' : Rho := fun j => if P j = true then ρ j else if j = B + enc v0 then some (.hdr 0 hv) else if j < B then none else ρ j
  have e1 : ∀ j, P j = true → ρ' j = ρ j := fun j hj => by simp [ρ', hj]
  have hPB : ∀ j, B ≤ j → P j = false := fun j hj => by
    cases hp : P j with
    | false => rfl
    | true => have := (hP j hp).1; omega
  have e2 : ρ' (B + enc v0) = some (.hdr 0 hv) := by simp [ρ', hPB (B + enc v0) (Nat.le_add_right _ _)]
  have e3 : ∀ j, B ≤ j → j ≠ B + enc v0 → ρ' j = ρ j := fun j h1 h2 => by
    simp only [ρ', hPB j h1, if_neg h2, Bool.false_eq_true, if_false]
    rw [if_neg (by omega)]
  have e4 : ∀ j, j < B → P j = false → ρ' j = none := fun j h1 h2 => by
    simp only [ρ', h2, Bool.false_eq_true, if_false]
    rw [if_neg (by omega), if_pos h1]
  let τ : Nat → Nat := fun j => if j = B + enc v0 then q else j
  have hold : ρ (B + enc v0) = none := h.no _ (by rw [hbig _ (Nat.le_add_right _ _)]; simp)
  have hcase : ∀ j x, ρ' j = some x → (j = B + enc v0 ∧ x = .hdr 0 hv) ∨ (j ≠ B + enc v0 ∧ j ≠ q ∧ ρ j = some x) := by
    intro j x hx
    by_cases h1 : j = B + enc v0
    · subst h1; rw [e2] at hx; injection hx with hx; exact .inl ⟨rfl, hx.symm⟩
    · refine .inr ⟨h1, fun e => ?_, ?_⟩
      · subst e; rw [e4 j k7 hPq] at hx; cases hx
      · cases hp : P j with
        | true => rw [e1 j hp] at hx; exact hx
        | false =>
          rcases Nat.lt_or_ge j B with hj | hj
          · rw [e4 j hj hp] at hx; cases hx
          · rw [e3 j hj h1] at hx; exact hx
  refine ⟨ρ', h.reob P τ hnt e1 (fun j => ?_) (fun j x hj b hb => ?_) (fun j j' x x' b b' hj hj' _ _ ht => ?_) (fun hG j o ho => ?_) (fun j ho => ?_) fun j hj => ?_⟩
  · rcases mkFr_or hL j with h1 | ⟨h1, x, hx, h2⟩
    · exact .inl h1
    · exact .inr ⟨h1, by show AV.ks P (mkFr L j) = true; rw [← h2]; exact k1 x hx⟩
  · rcases hcase j x hj with ⟨rfl, rfl⟩ | ⟨h1, h2, h3⟩
    · exact ⟨.hdr s hv, by simp only [τ, if_true]; exact hg0, hb⟩
    · exact ⟨x, by simp only [τ, if_neg h1]; exact h3, hb⟩
  · simp only [τ] at ht
    rcases hcase j x hj with ⟨h1, _⟩ | ⟨h1, h1', _⟩ <;> rcases hcase j' x' hj' with ⟨h2, _⟩ | ⟨h2, h2', _⟩
    · rw [h1, h2]
    · rw [if_pos h1, if_neg h2] at ht; exact absurd ht.symm h2'
    · rw [if_neg h1, if_pos h2] at ht; exact absurd ht h1'
    · rw [if_neg h1, if_neg h2] at ht; exact ht
  · replace ho : obF B e sz F' ((k, mapF B kk d enc) :: O) j = _ := ho
    rcases Nat.lt_or_ge j B with hj | hj
    · rw [obF_lt hj, mkOb_cons] at ho
      by_cases hjk : j = k
      · subst hjk
        rw [if_pos rfl] at ho
        injection ho with ho
        subst ho
        have hPk : P j = true := by simp [P, smallN_of hj]
        obtain ⟨g, es, clock, hg, hh, hs, hr, _⟩ := h.ob j _ hm
        refine ⟨g, es, clock, (e1 j hPk).trans hg, hh, hs, fun v hv' => ?_, fun _ h => by cases h⟩
        obtain ⟨r, r1, r2, r3⟩ := hr v hv'
        refine ⟨r, r1, by rw [hd v (KK.has_of hv')]; exact r2, ?_⟩
        rw [hf2 v (KK.has_of hv')] at r3
        cases hkq : keyEq v v0 with
        | true =>
          have := (keyEq_iff hv' (KK.has_ok hv0)).1 hkq
          subst this
          simp only [hkq, cond_true] at r3
          rw [r3.vec_inv hg0]
          exact .vec e2
        | false =>
          have hne : enc v ≠ enc v0 := fun e => by
            have := henc v v0 (KK.has_of hv') hv0 e
            rw [(keyEq_iff hv' (KK.has_ok hv0)).2 this] at hkq; cases hkq
          simp only [hkq, cond_false] at r3
          obtain ⟨hv1, xs1, hg1, _⟩ := h.ob (B + enc v) _ (by rw [hbig _ (Nat.le_add_right _ _), beq_false (by omega), cond_false])
          rw [r3.vec_inv hg1]
          exact .vec ((e3 _ (Nat.le_add_right _ _) (by omega)).trans hg1)
      · rw [if_neg hjk] at ho
        have hmem := mkOb_cases ho
        have hPj : P j = true := by simp [P, smallN_of hj, ho]
        obtain ⟨h1, _⟩ := mkOb_some hO j o ho
        cases hst : st.ob j with
        | none => rw [hst] at h1; exact h1.elim
        | some o1 =>
          rw [hst] at h1
          exact ObOk.keepP hG e1 (h1.ok (h.ob j o1 hst)) hPj (k2 _ hmem)
    · rw [obF_ge hj] at ho
      injection ho with ho
      subst ho
      by_cases h1 : j = B + enc v0
      · subst h1
        rw [Nat.add_sub_cancel_left, hF1]
        refine ⟨hv, xs, e2, hrow.1, fun i hi => by rw [hF2 i hi]; exact hrow.2.1 i hi, fun i jj x hi hx => (hrow.2.2 i jj x hi (by rw [← hF2 i hi]; exact hx)).tr (fun b hb => ⟨hG b hb, rfl⟩) _ (Le.refl _)⟩
      · have h2 : j - B ≠ enc v0 := by omega
        rw [hF _ h2]
        obtain ⟨hv1, xs1, hg1, q1, q2, q3⟩ := h.ob j _ (by rw [hbig j hj, beq_false h1, cond_false])
        exact ⟨hv1, xs1, (e3 j hj h1).trans hg1, q1, q2, fun i jj x hi hx => (q3 i jj x hi hx).tr (fun b hb => ⟨hG b hb, rfl⟩) _ (Le.refl _)⟩
  · replace ho : obF B e sz F' ((k, mapF B kk d enc) :: O) j = _ := ho
    rcases Nat.lt_or_ge j B with hj | hj
    · rw [obF_lt hj, mkOb_cons] at ho
      by_cases hjk : j = k
      · rw [if_pos hjk] at ho; cases ho
      · rw [if_neg hjk] at ho
        refine e4 j hj ?_
        simp [P, ho, beq_false hjk]
    · rw [obF_ge hj] at ho; cases ho
  · have := k8 j (List.mem_range.2 (by omega))
    have h2 := smallN_of (B := B) (j := j) (by omega)
    simp only [P, h2, Bool.true_and]
    simpa using this
theorem upd_big {α : Type} {f : Nat → α} {B k j : Nat} {v : α} (hj : B ≤ j) (hk : Nat.blt k B = true) : upd f k v j = f j := upd_other _ _ (by have := Nat.lt_of_succ_le (Nat.le_of_ble_eq_true hk); omega)
theorem obQ_ge {B e sz : Nat} {F : Nat → Nat × (Nat → List AV)} {q k m j : Nat} {M R : Ob} {O : List (Nat × Ob)} (hj : B ≤ j) : obQ B e sz F q k m M R O j = (bif Nat.beq j (B + m) then none else some (.vec e sz 0 (F (j - B)).1 (F (j - B)).2)) := by
  unfold obQ; rw [Nat.ble_eq_true_of_le hj, cond_true]
def keptD (B : Nat) (L : List (Nat × AV)) (k n : Nat) (O : List (Nat × Ob)) : Bool :=
  (L.all (fun x => x.2.ks (fun j => smallN B j && (Nat.beq j k || (mkOb O j).isSome))) && O.all (fun o => o.2.ks (fun j => smallN B j && (Nat.beq j k || (mkOb O j).isSome)))) &&
  (O.all (fun o => smallN B o.1) && smallN B k) && ((List.range n).all (fun j => Nat.beq j k || (mkOb O j).isSome) && Nat.ble n B)
theorem Weak.famOf {st : ST} {L : List (Nat × AV)} {O : List (Nat × Ob)} {B nx nt n k e sz : Nat} {md : Nat → Bool} {kk : KK} {d : Value → Bool} {enc : Value → Nat} {F : Nat → Nat × (Nat → List AV)}
    (hN : E.N = n) (hnt : nt = st.nt) (hk : keptD B L k n O = true) (hL : FrIs st L) (hO : ObIs st O) (hm : st.ob k = some (mapF B kk d enc)) (hbig : ∀ j, B ≤ j → st.ob j = some (.vec e sz 0 (F (j - B)).1 (F (j - B)).2)) :
    Weak E st ⟨mkFr L, obF B e sz F ((k, mapF B kk d enc) :: O), nx, nt, md⟩ := by
  rintro a w ⟨ρ, h⟩
  simp only [keptD, Bool.and_eq_true, List.all_eq_true, Bool.not_eq_true'] at hk
  obtain ⟨⟨⟨k1, k2⟩, k3, k4⟩, k8, k9⟩ := hk
  have k4 := smallN_lt k4
  have k9 := Nat.le_of_ble_eq_true k9
  let P : Nat → Bool := fun j => smallN B j && (Nat.beq j k || (mkOb O j).isSome)
  have hP : ∀ j, P j = true → j < B ∧ (j = k ∨ (mkOb O j).isSome = true) := fun j hp => by
    simp only [P, Bool.and_eq_true, Bool.or_eq_true] at hp
    exact ⟨smallN_lt hp.1, hp.2.imp Nat.eq_of_beq_eq_true id⟩
  have hPB : ∀ j, B ≤ j → P j = false := fun j hj => by
    cases hp : P j with
    | false => rfl
    | true => have := (hP j hp).1; omega
  let ρ' : Rho := fun j => if P j = true then ρ j else if j < B then none else ρ j
  have e1 : ∀ j, P j = true → ρ' j = ρ j := fun j hj => by simp [ρ', hj]
  have e3 : ∀ j, B ≤ j → ρ' j = ρ j := fun j h1 => by
    simp only [ρ', hPB j h1, Bool.false_eq_true, if_false]
    rw [if_neg (by omega)]
  have e4 : ∀ j, j < B → P j = false → ρ' j = none := fun j h1 h2 => by
    simp only [ρ', h2, Bool.false_eq_true, if_false]
    rw [if_pos h1]
  have hcase : ∀ j x, ρ' j = some x → ρ j = some x := by
    intro j x hx
    cases hp : P j with
    | true => rw [e1 j hp] at hx; exact hx
    | false =>
      rcases Nat.lt_or_ge j B with hj | hj
      · rw [e4 j hj hp] at hx; cases hx
      · rw [e3 j hj] at hx; exact hx
  refine ⟨ρ', h.reob P id hnt e1 (fun j => ?_) (fun j x hj b hb => ⟨x, hcase j x hj, hb⟩) (fun j j' x x' b b' _ _ _ _ ht => ht) (fun hG j o ho => ?_) (fun j ho => ?_) fun j hj => ?_⟩
  · rcases mkFr_or hL j with h1 | ⟨h1, x, hx, h2⟩
    · exact .inl h1
    · exact .inr ⟨h1, by show AV.ks P (mkFr L j) = true; rw [← h2]; exact k1 x hx⟩
  · replace ho : obF B e sz F ((k, mapF B kk d enc) :: O) j = _ := ho
    rcases Nat.lt_or_ge j B with hj | hj
    · rw [obF_lt hj, mkOb_cons] at ho
      by_cases hjk : j = k
      · subst hjk
        rw [if_pos rfl] at ho
        injection ho with ho
        subst ho
        have hPk : P j = true := by simp [P, smallN_of hj]
        obtain ⟨g, es, clock, hg, hh, hs, hr, _⟩ := h.ob j _ hm
        refine ⟨g, es, clock, (e1 j hPk).trans hg, hh, hs, fun v hv' => ?_, fun _ h => by cases h⟩
        obtain ⟨r, r1, r2, r3⟩ := hr v hv'
        refine ⟨r, r1, r2, ?_⟩
        obtain ⟨hv1, xs1, hg1, _⟩ := h.ob (B + enc v) _ (hbig _ (Nat.le_add_right _ _))
        rw [r3.vec_inv hg1]
        exact .vec ((e3 _ (Nat.le_add_right _ _)).trans hg1)
      · rw [if_neg hjk] at ho
        have hmem := mkOb_cases ho
        have hPj : P j = true := by simp [P, smallN_of hj, ho]
        obtain ⟨h1, _⟩ := mkOb_some hO j o ho
        cases hst : st.ob j with
        | none => rw [hst] at h1; exact h1.elim
        | some o1 =>
          rw [hst] at h1
          exact ObOk.keepP hG e1 (h1.ok (h.ob j o1 hst)) hPj (k2 _ hmem)
    · rw [obF_ge hj] at ho
      injection ho with ho
      subst ho
      obtain ⟨hv1, xs1, hg1, q1, q2, q3⟩ := h.ob j _ (hbig j hj)
      exact ⟨hv1, xs1, (e3 j hj).trans hg1, q1, q2, fun i jj x hi hx => (q3 i jj x hi hx).tr (fun b hb => ⟨hG b hb, rfl⟩) _ (Le.refl _)⟩
  · replace ho : obF B e sz F ((k, mapF B kk d enc) :: O) j = _ := ho
    rcases Nat.lt_or_ge j B with hj | hj
    · rw [obF_lt hj, mkOb_cons] at ho
      by_cases hjk : j = k
      · rw [if_pos hjk] at ho; cases ho
      · rw [if_neg hjk] at ho
        refine e4 j hj ?_
        simp [P, ho, beq_false hjk]
    · rw [obF_ge hj] at ho; cases ho
  · have := k8 j (List.mem_range.2 (by omega))
    have h2 := smallN_of (B := B) (j := j) (by omega)
    simp only [P, h2, Bool.true_and]
    simpa using this
end
end Go.Eng
end
