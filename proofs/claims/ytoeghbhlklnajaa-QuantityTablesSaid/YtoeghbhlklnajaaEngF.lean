/- The engine, part F: lengths, parts of structs, structs built; new memory; writes. -/
import Derived.Test.YtoeghbhlklnajaaEngE
namespace Go.Eng

def lenF (T : TE) (ob : Nat → Option Ob) (t : TypeId) : AV → Option (List Prop × AV)
  | .rs _ n _ => match T.find t with
    | some ti => match ti.kind with
      | .slice _ => some ([], .c (.int .i64 n))
      | _ => none
    | none => none
  | .vec k s => match T.find t, ob k with
    | some ti, some (.vec _ _ s' n _) => match ti.kind with
      | .slice _ => bif Nat.beq s s' then some ([], .c (.int .i64 n)) else none
      | _ => none
    | _, _ => none
  | .c (.slice _ n _) => match T.find t with
    | some ti => match ti.kind with
      | .slice _ => some ([], .c (.int .i64 n))
      | _ => none
    | none => none
  | .c (.string b) => match T.find t with
    | some ti => match ti.kind with
      | .string => some ([], .c (.int .i64 b.size))
      | _ => none
    | none => none
  | _ => none

def extremeGo (mx : Bool) (k : IntKind) (a : Int) : List AV → Option AV
  | [] => some (.c (.int k a))
  | .c (.int k' b) :: l => if k = k' then extremeGo mx k (bif mx then (if a < b then b else a) else (if b < a then b else a)) l else none
  | _ => none
def extremeF (mx : Bool) : List AV → Option AV
  | .c (.int k a) :: l => extremeGo mx k a l
  | _ => none

/-- A part of a struct's or an array's value. -/
def partF (T : TE) (t : TypeId) (l : List AV) (o : Nat) : Option AV :=
  match T.find t with
  | some ti => bif ti.kind.agg then (bif Nat.ble (o + ti.size) l.length then some (.agg ((l.drop o).take ti.size)) else none) else l[o]?
  | none => none

def fieldVF (T : TE) (s : TypeId) (f : Nat) : AV → Option (List Prop × AV)
  | .agg l => match T.find s with
    | some ti => match ti.kind with
      | .struct pl ty => match pl[f]?, ty[f]? with
        | some (o, _), some t => match partF T t l o with
          | some x => some ([], x)
          | none => none
        | _, _ => none
      | _ => none
    | none => none
  | _ => none

/-- v[i]: a byte of a string; an element of an array's value at a known index. -/
def indexVF (T : TE) (t : TypeId) : AV → AV → Option (List Prop × AV)
  | .c (.string s), .c (.int _ i) => match T.find t with
    | some ti => match ti.kind with
      | .string => some ([0 ≤ i ∧ i < (s.size : Int)], .c (.int .u8 ((s[i.toNat]?).getD 0).toNat))
      | _ => none
    | none => none
  | .agg l, .c (.int _ i) => match T.find t with
    | some ti => match ti.kind with
      | .array n e => match T.find e with
        | some te => match partF T e l (i.toNat * te.size) with
          | some x => some ([0 ≤ i ∧ i < (n : Int)], x)
          | none => none
        | none => none
      | _ => none
    | none => none
  | _, _ => none

section
variable {E : Env} {st : ST} {a : Act} {w : World} {ρ : Rho} {T : TE}

theorem lenF_ok (hT : TOk E.P T) (h : SatR E st a w ρ) {t ty : TypeId} {x r : AV} {u : Value} {obl : List Prop} (hl : lenF T st.ob t x = some (obl, r)) (hx : R w (E.good w ρ) ρ x u) :
    ∃ z, (Builtin.len_ #[t] ty #[u]).run E.P w = .ok z w ∧ R w (E.good w ρ) ρ r z := by
  unfold lenF at hl
  split at hl
  · split at hl
    · rename_i ti ht
      have hkd := (hT t ti ht).kind
      split at hl
      · rename_i e hk
        rw [hk] at hkd
        simp only [KindOk] at hkd
        simp only [Option.some.injEq, Prod.mk.injEq] at hl
        obtain ⟨rfl, rfl⟩ := hl
        obtain ⟨A, cap, rfl, _⟩ := hx.rs_inv
        exact ⟨_, by simp [Builtin.len_, run_underlying hkd, goInt], .c⟩
      · cases hl
    · cases hl
  · rename_i k s
    split at hl
    · rename_i ti e sz s' n f ht ho
      have hkd := (hT t ti ht).kind
      split at hl
      · rename_i e' hk
        rw [hk] at hkd
        simp only [KindOk] at hkd
        cases hb : Nat.beq s s' with
        | false => simp [hb] at hl
        | true =>
          simp only [hb, cond_true, Option.some.injEq, Prod.mk.injEq] at hl
          obtain ⟨rfl, rfl⟩ := hl
          obtain ⟨_, _, _, _, xs, ho', hk', hown, _⟩ := h.live_vec (by simp [live, ho, hb]) hx
          have hs := Nat.eq_of_beq_eq_true hb
          subst hs
          rw [ho] at ho'
          injection ho' with ho'
          injection ho' with h2 h3 _ h4 h5
          subst h2 h3 h4 h5
          rcases hown.2 with ⟨rfl, hn⟩ | ⟨g, cap, cur, rfl, _⟩
          · subst hn
            exact ⟨_, by simp [Builtin.len_, run_underlying hkd, goInt], .c⟩
          · exact ⟨_, by simp [Builtin.len_, run_underlying hkd, goInt], .c⟩
      · cases hl
    · cases hl
  · rw [hx.c_inv]
    split at hl
    · rename_i ti ht
      have hkd := (hT t ti ht).kind
      split at hl
      · rename_i e hk
        rw [hk] at hkd
        simp only [KindOk] at hkd
        simp only [Option.some.injEq, Prod.mk.injEq] at hl
        obtain ⟨rfl, rfl⟩ := hl
        exact ⟨_, by simp [Builtin.len_, run_underlying hkd, goInt], .c⟩
      · cases hl
    · cases hl
  · rw [hx.c_inv]
    split at hl
    · rename_i ti ht
      have hkd := (hT t ti ht).kind
      split at hl
      · rename_i hk
        rw [hk] at hkd
        simp only [KindOk] at hkd
        simp only [Option.some.injEq, Prod.mk.injEq] at hl
        obtain ⟨rfl, rfl⟩ := hl
        exact ⟨_, by simp [Builtin.len_, run_underlying hkd, goInt], .c⟩
      · cases hl
    · cases hl
  · cases hl

theorem extremeGo_ok {P : Program} {G : Nat → Prop} {mx : Bool} {k : IntKind} : ∀ {l : List AV} {vs : List Value} {a : Int} {r : AV}, extremeGo mx k a l = some r → vs.length = l.length → (∀ (i : Nat) (x : AV), l[i]? = some x → R w G ρ x (vs.getD i undef)) →
    ∃ z, (vs.foldlM (if mx then Builtin.max2 else Builtin.min2) (.int k a)).run P w = .ok z w ∧ R w G ρ r z
  | [], vs, a, r, h, hlen, _ => by
    simp only [extremeGo, Option.some.injEq] at h
    subst h
    have : vs = [] := List.eq_nil_of_length_eq_zero hlen
    subst this
    exact ⟨_, rfl, .c⟩
  | x :: l, [], a, r, h, hlen, _ => by simp at hlen
  | x :: l, v :: vs, a, r, h, hlen, hr => by
    unfold extremeGo at h
    split at h
    · rename_i heq; cases heq
    · rename_i k' b l' heq
      injection heq with h1 h2
      subst h1 h2
      split at h
      · rename_i hk
        subst hk
        have h1 := (hr 0 _ rfl).c_inv
        simp at h1
        subst h1
        obtain ⟨z, hz, hrz⟩ := extremeGo_ok (P := P) h (by simpa using hlen) (fun i x hx => by simpa using hr (i + 1) x (by simpa using hx))
        refine ⟨z, ?_, hrz⟩
        cases mx
        · simpa [Builtin.min2, List.foldlM] using hz
        · simpa [Builtin.max2, List.foldlM] using hz
      · cases h
    · cases h

theorem extremeF_ok {P : Program} {G : Nat → Prop} {mx : Bool} {l : List AV} {vs : Array Value} {r : AV} (h : extremeF mx l = some r) (hlen : vs.size = l.length) (hr : ∀ (i : Nat) (x : AV), l[i]? = some x → R w G ρ x (vs.getD i undef)) (ts : Array TypeId) (ty : TypeId) :
    ∃ z, ((if mx then Builtin.max_ ts ty vs else Builtin.min_ ts ty vs) : Sem Value).run P w = .ok z w ∧ R w G ρ r z := by
  unfold extremeF at h
  split at h
  · rename_i k a l'
    obtain ⟨vs⟩ := vs
    match vs, hlen with
    | v :: vs, hlen =>
      have h1 := (hr 0 _ rfl).c_inv
      simp at h1
      subst h1
      obtain ⟨z, hz, hrz⟩ := extremeGo_ok (P := P) (w := w) (ρ := ρ) (G := G) (vs := vs) h (by simpa using hlen) (fun i x hx => by simpa using hr (i + 1) x (by simpa using hx))
      refine ⟨z, ?_, hrz⟩
      cases mx
      · simpa [Builtin.min_] using hz
      · simpa [Builtin.max_] using hz
  · cases h

theorem partF_ok {P : Program} {G : Nat → Prop} (hT : TOk P T) {t : TypeId} {l : List AV} {o : Nat} {x : AV} {cs : Array Value} (h : partF T t l o = some x) (hs : cs.size = l.length)
    (hr : ∀ i a, l[i]? = some a → R w G ρ a (cs.getD i undef)) : ∃ z, (part t cs o).run P w = .ok z w ∧ R w G ρ x z := by
  unfold partF at h
  split at h
  · rename_i ti ht
    have hk := hT t ti ht
    cases ha : ti.kind.agg with
    | false =>
      simp only [ha, cond_false] at h
      have ho : o < cs.size := by rw [hs]; exact (List.getElem?_eq_some_iff.1 h).1
      refine ⟨cs.getD o undef, ?_, hr o x h⟩
      simp [part, hk.run_isAgg w, ha, ho]
    | true =>
      simp only [ha, cond_true] at h
      cases hb : Nat.ble (o + ti.size) l.length with
      | false => simp [hb] at h
      | true =>
        simp only [hb, cond_true, Option.some.injEq] at h
        subst h
        have hle := Nat.le_of_ble_eq_true hb
        refine ⟨.agg (cs.extract o (o + ti.size)), by simp [part, hk.run_isAgg w, ha, hk.run_sizeOf w], .agg ?_ fun i y hy => ?_⟩
        · simp only [Array.size_extract, List.length_take, List.length_drop]; omega
        · have hi : i < ti.size := by
            have := (List.getElem?_eq_some_iff.1 hy).1
            simp at this; omega
          rw [List.getElem?_take, if_pos hi, List.getElem?_drop] at hy
          have := hr (o + i) y hy
          have h3 : (cs.extract o (o + ti.size)).getD i undef = cs.getD (o + i) undef := by
            have h4 : i < (cs.extract o (o + ti.size)).size := by simp only [Array.size_extract]; omega
            have h5 : o + i < cs.size := by omega
            simp only [Array.getD_eq_getD_getElem?, Array.getElem?_eq_getElem h4, Array.getElem?_eq_getElem h5, Array.getElem_extract]
          rw [h3]; exact this
  · cases h

theorem fieldVF_ok (hT : TOk E.P T) {s : TypeId} {f : Nat} {x r : AV} {v : Value} {obl : List Prop} (hl : fieldVF T s f x = some (obl, r)) (hr : R w (E.good w ρ) ρ x v) :
    ∃ z, (Instr.field s v f).run E.P w = .ok z w ∧ R w (E.good w ρ) ρ r z := by
  unfold fieldVF at hl
  split at hl
  · rename_i l
    obtain ⟨cs, rfl, hs, hrs⟩ := hr.agg_inv
    split at hl
    · rename_i ti ht
      split at hl
      · rename_i pl ty hk
        split at hl
        · rename_i o sz t hf hty
          obtain ⟨fs, fd, inf, h1, h2, h3, h4, h5, h6⟩ := (hT s ti ht).field hk hf
          rw [h6] at hty
          injection hty with hty
          split at hl
          · rename_i y hy
            simp only [Option.some.injEq, Prod.mk.injEq] at hl
            obtain ⟨rfl, rfl⟩ := hl
            obtain ⟨z, hz, hrz⟩ := partF_ok (P := E.P) hT hy hs hrs
            refine ⟨z, ?_, hrz⟩
            rw [← hty, ← h3] at hz
            simp [Instr.field, run_underlying h1, h2, asAgg, hz]
          · cases hl
        · cases hl
      · cases hl
    · cases hl
  · cases hl

theorem indexVF_ok (hT : TOk E.P T) {t : TypeId} {x y r : AV} {u v : Value} {obl : List Prop} (hl : indexVF T t x y = some (obl, r)) (ho : ∀ p ∈ obl, p)
    (hx : R w (E.good w ρ) ρ x u) (hy : R w (E.good w ρ) ρ y v) : ∃ z, (Instr.index t u v).run E.P w = .ok z w ∧ R w (E.good w ρ) ρ r z := by
  unfold indexVF at hl
  split at hl
  · rename_i s ik i
    rw [hx.c_inv, hy.c_inv]
    split at hl
    · rename_i ti ht
      have hkd := (hT t ti ht).kind
      split at hl
      · rename_i hk
        rw [hk] at hkd
        simp only [KindOk] at hkd
        simp only [Option.some.injEq, Prod.mk.injEq] at hl
        obtain ⟨rfl, rfl⟩ := hl
        obtain ⟨h0, h1⟩ : 0 ≤ i ∧ i < (s.size : Int) := ho _ (by simp)
        have hi : i.toNat < s.size := by omega
        refine ⟨_, ?_, .c⟩
        simp [Instr.index, asIntOf_int, run_underlying hkd, h0, hi]
      · cases hl
    · cases hl
  · rename_i l ik i
    obtain ⟨cs, rfl, hs, hrs⟩ := hx.agg_inv
    rw [hy.c_inv]
    split at hl
    · rename_i ti ht
      have hkd := (hT t ti ht).kind
      split at hl
      · rename_i n e hk
        rw [hk] at hkd
        simp only [KindOk] at hkd
        split at hl
        · rename_i te hte
          split at hl
          · rename_i y' hy'
            simp only [Option.some.injEq, Prod.mk.injEq] at hl
            obtain ⟨rfl, rfl⟩ := hl
            obtain ⟨h0, h1⟩ : 0 ≤ i ∧ i < (n : Int) := ho _ (by simp)
            obtain ⟨z, hz, hrz⟩ := partF_ok (P := E.P) hT hy' hs hrs
            refine ⟨z, ?_, hrz⟩
            simp [Instr.index, asIntOf_int, run_underlying hkd, h0, h1, (hT e te hte).run_sizeOf w, hz]
          · cases hl
        · cases hl
      · cases hl
    · cases hl
  · cases hl
end

/- Lists of cells with some of them set. -/
def setL : List AV → Nat → List AV → List AV
  | [], _, _ => []
  | c :: cs, 0, [] => c :: cs
  | _ :: cs, 0, v :: vs => v :: setL cs 0 vs
  | c :: cs, n + 1, vs => c :: setL cs n vs

theorem setL_length : ∀ (cs : List AV) (o : Nat) (vs : List AV), (setL cs o vs).length = cs.length
  | [], _, _ => rfl
  | _ :: _, 0, [] => rfl
  | _ :: cs, 0, _ :: vs => by simp [setL, setL_length cs 0 vs]
  | _ :: cs, n + 1, vs => by simp [setL, setL_length cs n vs]

theorem setL_get : ∀ (cs : List AV) (o : Nat) (vs : List AV) (i : Nat), o + vs.length ≤ cs.length → (setL cs o vs)[i]? = if o ≤ i ∧ i < o + vs.length then vs[i - o]? else cs[i]?
  | [], o, vs, i, h => by
    have : vs = [] := List.eq_nil_of_length_eq_zero (by simp only [List.length_nil] at h; omega)
    subst this
    simp [setL]
  | c :: cs, 0, [], i, _ => by simp [setL]
  | c :: cs, 0, v :: vs, i, h => by
    cases i with
    | zero => simp [setL]
    | succ i =>
      have := setL_get cs 0 vs i (by simp at h ⊢; omega)
      simp [setL, this]
  | c :: cs, n + 1, vs, i, h => by
    cases i with
    | zero => simp [setL]
    | succ i =>
      have := setL_get cs n vs i (by simp at h ⊢; omega)
      simp only [setL, List.getElem?_cons_succ, this]
      by_cases hc : n ≤ i ∧ i < n + vs.length
      · rw [if_pos hc, if_pos (by omega), show i + 1 - (n + 1) = i - n by omega]
      · rw [if_neg hc, if_neg (by omega)]

def fillF (pl : Nat → Option (Nat × Nat)) (cells : List AV) : List (Nat × List AV) → Option (List AV)
  | [] => some cells
  | (i, vs) :: rest => match pl i with
    | none => none
    | some (o, sz) => bif Nat.beq vs.length sz && Nat.ble (o + sz) cells.length then fillF pl (setL cells o vs) rest else none

theorem foldl_set (vs : List Value) : ∀ (o k : Nat) (cs : Array Value), o + k + vs.length ≤ cs.size →
    let r := (vs.zipIdx k).foldl (fun cs (x : Value × Nat) => cs.setIfInBounds (o + x.2) x.1) cs
    r.size = cs.size ∧ ∀ i, r.getD i undef = if o + k ≤ i ∧ i < o + k + vs.length then vs.getD (i - (o + k)) undef else cs.getD i undef := by
  induction vs with
  | nil => intro o k cs _; exact ⟨rfl, fun i => by simp; omega⟩
  | cons v vs ih =>
    intro o k cs h
    simp only [List.zipIdx_cons, List.foldl_cons]
    obtain ⟨h1, h2⟩ := ih o (k + 1) (cs.setIfInBounds (o + k) v) (by simp at h ⊢; omega)
    refine ⟨by simpa using h1, fun i => ?_⟩
    rw [h2 i]
    simp only [List.length_cons] at h ⊢
    by_cases e : i = o + k
    · subst e
      rw [if_neg (by omega), if_pos (by omega)]
      have : o + k < cs.size := by omega
      simp [this]
    · by_cases e2 : o + (k + 1) ≤ i ∧ i < o + (k + 1) + vs.length
      · rw [if_pos e2, if_pos (by omega), show i - (o + k) = (i - (o + (k + 1))) + 1 by omega]
        simp
      · rw [if_neg e2, if_neg (by omega)]
        simp [Array.getElem?_setIfInBounds_ne (Ne.symm e)]

section
variable {w : World} {G : Nat → Prop} {ρ : Rho}
theorem fillF_ok {pl : Nat → Option (Nat × Nat)} : ∀ {parts : List (Nat × List AV)} {vparts : List (Nat × Value)} {cells r : List AV} {arr : Array Value}, fillF pl cells parts = some r →
    vparts.length = parts.length → (∀ (j i : Nat) (l : List AV), parts[j]? = some (i, l) → ∃ v, vparts[j]? = some (i, v) ∧ v.cells.size = l.length ∧ ∀ k y, l[k]? = some y → R w G ρ y (v.cells.getD k undef)) →
    arr.size = cells.length → (∀ i x, cells[i]? = some x → R w G ρ x (arr.getD i undef)) →
    ∃ arr', Instr.fill pl arr vparts = some arr' ∧ arr'.size = r.length ∧ ∀ i x, r[i]? = some x → R w G ρ x (arr'.getD i undef)
  | [], vparts, cells, r, arr, h, hl, _, hs, hr => by
    simp only [fillF, Option.some.injEq] at h
    subst h
    have : vparts = [] := List.eq_nil_of_length_eq_zero hl
    subst this
    exact ⟨arr, rfl, hs, hr⟩
  | (i, vs) :: rest, [], cells, r, arr, h, hl, _, _, _ => by simp at hl
  | (i, vs) :: rest, (i', v) :: vrest, cells, r, arr, h, hl, hp, hs, hr => by
    obtain ⟨v', hv', h1, h2⟩ := hp 0 i vs rfl
    simp only [List.getElem?_cons_zero, Option.some.injEq, Prod.mk.injEq] at hv'
    obtain ⟨rfl, rfl⟩ := hv'
    simp only [fillF] at h
    cases hpl : pl i' with
    | none => simp [hpl] at h
    | some os =>
      obtain ⟨o, sz⟩ := os
      simp only [hpl] at h
      cases hb : Nat.beq vs.length sz && Nat.ble (o + sz) cells.length with
      | false => simp [hb] at h
      | true =>
        simp only [hb, cond_true] at h
        simp only [Bool.and_eq_true] at hb
        have hsz := Nat.eq_of_beq_eq_true hb.1
        have hle := Nat.le_of_ble_eq_true hb.2
        subst hsz
        have hf := foldl_set v.cells.toList o 0 arr (by simp; omega)
        simp only [Nat.add_zero] at hf
        obtain ⟨h3, h4⟩ := hf
        have hz : v.cells.zipIdx.foldl (fun cs (x : Value × Nat) => cs.setIfInBounds (o + x.2) x.1) arr = (v.cells.toList.zipIdx 0).foldl (fun cs (x : Value × Nat) => cs.setIfInBounds (o + x.2) x.1) arr := by
          rw [← Array.foldl_toList]; congr 1; simp
        obtain ⟨arr', h5, h6, h7⟩ := fillF_ok (arr := v.cells.zipIdx.foldl (fun cs (x : Value × Nat) => cs.setIfInBounds (o + x.2) x.1) arr) h (by simpa using hl)
          (fun j i l hj => by simpa using hp (j + 1) i l (by simpa using hj)) (by rw [hz, h3, setL_length]; exact hs) (fun k x hk => by
            rw [hz, h4 k]
            rw [setL_get _ _ _ _ hle] at hk
            simp only [Array.length_toList, h1]
            by_cases hc : o ≤ k ∧ k < o + vs.length
            · rw [if_pos hc] at hk ⊢
              simpa using h2 _ _ hk
            · rw [if_neg hc] at hk ⊢
              exact hr k x hk)
        refine ⟨arr', ?_, h6, h7⟩
        simp only [Instr.fill, hpl]
        rw [if_neg (by simp [h1]; omega)]
        exact h5
end

end Go.Eng
