import Derived.Test.YtofdehlikigonaaGreatP2
import Derived.LoopN
import Derived.Scope
section
/- The engine, part K: one step of a region; what it hangs on. -/
namespace Go.Eng
/-- The kind of a map's keys. -/
def keyKind (T : TE) (t : Nat) : Option KK := match T.find t with
  | some ti => match ti.kind with
    | .int k => some (.int k)
    | .string => some .str
    | .bool => some .bool
    | _ => none
  | none => none
def KK.same : KK → KK → Bool
  | .int k, .int k' => decide (k = k')
  | .str, .str => true
  | .bool, .bool => true
  | _, _ => false
def zeroAV (ti : TI) : AV := bif ti.kind.agg then .agg (ti.zero.map AV.c) else .c (ti.zero.headD undef)
def makeMapF (T : TE) (k t : Nat) : Option (List Prop × Eff) := match T.find t with
  | some ti => match ti.kind with
    | .map kt et => match keyKind T kt, T.find et with
      | some kk, some te => some ([], ⟨.mp k, some (k, .mapb kk te.zv (fun _ => false) (fun _ => zeroAV te))⟩)
      | _, _ => none
    | _ => none
  | none => none
def flatSame : Value → Value → Bool
  | .int k a, .int k' b => decide (k = k') && (a == b)
  | .string a, .string b => a == b
  | .bool a, .bool b => a == b
  | .slice none 0 0, .slice none 0 0 => true
  | .pointer none, .pointer none => true
  | .map none, .map none => true
  | .nilFunc, .nilFunc => true
  | .nilIface, .nilIface => true
  | _, _ => false
def flatSameL : List Value → List Value → Bool
  | [], [] => true
  | a :: l, b :: l' => flatSame a b && flatSameL l l'
  | _, _ => false
/-- The same zero value. -/
def zvSame : Value → Value → Bool
  | .agg a, .agg b => flatSameL a.toList b.toList
  | a, b => flatSame a b
theorem flatSame_eq {a b : Value} (h : flatSame a b = true) : a = b := by
  unfold flatSame at h
  split at h <;> simp_all [Go.MapKept.bytes_beq]
theorem flatSameL_eq : ∀ {a b : List Value}, flatSameL a b = true → a = b
  | [], [], _ => rfl
  | [], _ :: _, h => by simp [flatSameL] at h
  | _ :: _, [], h => by simp [flatSameL] at h
  | a :: l, b :: l', h => by
    simp only [flatSameL, Bool.and_eq_true] at h
    rw [flatSame_eq h.1, flatSameL_eq h.2]
theorem zvSame_eq {a b : Value} (h : zvSame a b = true) : a = b := by
  unfold zvSame at h
  split at h
  · rw [Array.toList_inj.1 (flatSameL_eq h)]
  · exact flatSame_eq h
def lookF (T : TE) (ob : Nat → Option Ob) (t : Nat) (ok : Bool) : AV → AV → Option (List Prop × AV)
  | .mp k, .c v => match T.find t with
    | some ti => match ti.kind with
      | .map kt et => match keyKind T kt, T.find et with
        | some kk, some te => (match ob k with
          | some (.mapb kk' zv d f) => bif KK.same kk kk' && kk.has v && zvSame zv te.zv then some ([], bif ok then .tup [f v, .c (.bool (d v))] else f v) else none
          | some (.mapo kk' zv d f) => bif KK.same kk kk' && kk.has v && zvSame zv te.zv then some ([], bif ok then .tup [f v, .c (.bool (d v))] else f v) else none
          | _ => none)
        | _, _ => none
      | _ => none
    | none => none
  | _, _ => none
def mputF (T : TE) (ob : Nat → Option Ob) (t : Nat) : AV → AV → AV → Option (Nat × Ob)
  | .mp k, .c v, x => match T.find t with
    | some ti => match ti.kind with
      | .map kt _ => match keyKind T kt with
        | some kk => (match ob k with
          | some (.mapb kk' zv d f) => bif KK.same kk kk' && kk.has v && x.ks (fun _ => false) then some (k, .mapb kk' zv (fun u => keyEq u v || d u) (fun u => bif keyEq u v then x else f u)) else none
          | some (.mapo kk' zv d f) => bif KK.same kk kk' && kk.has v then some (k, .mapo kk' zv (fun u => keyEq u v || d u) (fun u => bif keyEq u v then x else f u)) else none
          | _ => none)
        | none => none
      | _ => none
    | none => none
  | _, _, _ => none
def effG (T : TE) (st : ST) (d k : Nat) (e : Operand → AV) (op : Op) : Option (List Prop × Eff) :=
  match op with
  | .alloc t => match T.find t, st.ob k with
    | some ti, none => match newObj T k t (ti.zero.map AV.c) with
      | some (x, o) => some ([], ⟨x, some (k, o)⟩)
      | none => none
    | _, _ => none
  | .box t x => match avCells st.ob (e x), st.ob k with
    | some l, none => match newObj T k t l with
      | some (x, o) => some ([], ⟨x, some (k, o)⟩)
      | none => none
    | _, _ => none
  | .buildSlice t len parts => match bsCells T st.ob t len (parts.toList.map fun p => (p.1, e p.2)) with
    | some (el, sz, l) => bif AV.ksL (fun _ => false) l then
        (bif st.md d then (match st.ob k with
          | none => some ([], ⟨.vec k 0, some (k, .vec el sz 0 len (rowOf l sz))⟩)
          | _ => none) else some ([], ⟨.rs sz len (rowOf l sz), none⟩)) else none
    | none => none
  | .makeSlice t x y => match st.ob k with
    | none => makeF T k t (e x) (e y)
    | _ => none
  | .store t x y => match storeF T st.ob t (e x) (e y) with
    | some (k', o) => some ([], ⟨.junk, some (k', o)⟩)
    | none => none
  | .makeMap t none => match st.ob k with
    | none => makeMapF T k t
    | _ => none
  | .lookup t x i ok => match lookF T st.ob t ok (e x) (e i) with
    | some (obl, x) => some (obl, ⟨x, none⟩)
    | none => none
  | .mapUpdate t m i x => match mputF T st.ob t (e m) (e i) (e x) with
    | some (k', o) => some ([], ⟨.junk, some (k', o)⟩)
    | none => none
  | .insert t m i x => match mputF T st.ob t (e m) (e i) (e x) with
    | some (k', o) => some ([], ⟨.junk, some (k', o)⟩)
    | none => none
  | .call c => match c.callee, c.args.toList, c.argTypes.toList with
    | .builtin .append, [s, x], [t, t'] => bif Nat.beq t t' then appendF T st.ob k t (e s) (e x) else none
    | .builtin .copy, [s, x], [t, t'] => bif Nat.beq t t' then copyF T st.ob t (e s) (e x) else none
    | _, _, _ => match valF T st.ob (st.md d) e (.call c) with
      | some (obl, x) => some (obl, ⟨x, none⟩)
      | none => none
  | op => match valF T st.ob (st.md d) e op with
    | some (obl, x) => some (obl, ⟨x, none⟩)
    | none => none
def effF (T : TE) (st : ST) (d : Nat) (e : Operand → AV) (op : Op) : Option (List Prop × Eff) := effG T st d (st.nx + d) e op
section
variable {E : Env} {st : ST} {a : Act} {w : World} {ρ : Rho} {T : TE}
theorem app_none {st : ST} {x : AV} {k : Nat} {o : Ob} : st.app none ⟨x, some (k, o)⟩ = { st with ob := upd st.ob k (some o) } := rfl
theorem KK.same_eq {a b : KK} (h : KK.same a b = true) : a = b := by
  cases a <;> cases b <;> simp_all [KK.same]
theorem keyKind_ok (hT : TOk E.P T) {t : Nat} {kk : KK} (h : keyKind T t = some kk) : E.P.underlying t = some kk.desc := by
  unfold keyKind at h
  split at h
  · rename_i ti ht
    have hk := (hT t ti ht).kind
    split at h <;> simp at h <;> subst h <;> simp_all [KindOk, KK.desc]
  · cases h
theorem has_of (es : List MapEntry) (v : Value) : ∃ r, Holds es v r := by
  by_cases h : ∃ e ∈ es, e.key = v
  · obtain ⟨e, he, hk⟩ := h
    exact ⟨_, .inr ⟨e, he, hk, rfl⟩⟩
  · exact ⟨none, .inl ⟨rfl, fun e he hk => h ⟨e, he, hk⟩⟩⟩
theorem Holds.fn {es : List MapEntry} {v : Value} {r r' : Option Value} (hn : (es.map (·.key)).Nodup) (h : Holds es v r) (h' : Holds es v r') : r = r' := by
  rcases h with ⟨rfl, h⟩ | ⟨e, he, hk, rfl⟩ <;> rcases h' with ⟨rfl, h'⟩ | ⟨e', he', hk', rfl⟩
  · rfl
  · exact absurd hk' (h e' he')
  · exact absurd hk (h' e he)
  · have : e = e' := by
      rw [List.Nodup, List.pairwise_map] at hn
      by_cases hee : e = e'
      · exact hee
      · exfalso
        have hp : es.Pairwise (fun a b => a.key ≠ b.key) := hn
        rcases List.pairwise_iff_getElem.1 hp with hp
        obtain ⟨i, hi, rfl⟩ := List.getElem_of_mem he
        obtain ⟨j, hj, rfl⟩ := List.getElem_of_mem he'
        rcases Nat.lt_trichotomy i j with hij | hij | hij
        · exact hp i j hi hj hij (hk.trans hk'.symm)
        · subst hij; exact hee rfl
        · exact hp j i hj hi hij (hk'.trans hk.symm)
    subst this; rfl
theorem zeroAV_ok {w : World} {G : Nat → Prop} {ρ : Rho} (ti : TI) : R w G ρ (zeroAV ti) ti.zv := by
  unfold zeroAV TI.zv
  cases ti.kind.agg with
  | true =>
    refine .agg (by simp) fun i x hx => ?_
    simp only [List.getElem?_map, Option.map_eq_some_iff] at hx
    obtain ⟨v, hv, rfl⟩ := hx
    have : ti.zero.toArray.getD i undef = v := by simp [hv]
    rw [this]; exact .c
  | false => exact .c
theorem makeMap_ok (h : SatR E st a w ρ) {k t : Nat} {eff : Eff} {obl : List Prop} (hm : makeMapF T k t = some (obl, eff)) (hk : st.ob k = none) :
    ∃ z w' ρ' o, (Instr.makeMap t none).run E.P w = .ok z w' ∧ eff.ob = some (k, o) ∧ SatR E { st with ob := upd st.ob k (some o) } a w' ρ' ∧ R w' (E.good w' ρ') ρ' eff.av z := by
  unfold makeMapF at hm
  split at hm <;> try (cases hm; done)
  split at hm <;> try (cases hm; done)
  split at hm <;> try (cases hm; done)
  rename_i kk te hkk hte
  simp only [Option.some.injEq, Prod.mk.injEq] at hm
  obtain ⟨rfl, rfl⟩ := hm
  have hn := h.no k hk
  refine ⟨.map (some w.heap.size), w.alloc (.map #[] 0), upd ρ k (some (.blk w.heap.size)), _, by simp [Instr.makeMap, Result.andThen], rfl, ?_, .mp (upd_same _ _ _)⟩
  refine h.turn (.inl hn) (by rw [hn]; exact World.grownBy_alloc w _ none) (Nat.le_refl _) (fun b hb => ?_) fun hG hl => ?_
  · injection hb with hb; subst hb; exact .inr (Nat.le_refl _)
  · exact ⟨w.heap.size, #[], 0, upd_same _ _ _, heap_alloc_new w _, ⟨Go.MapKept.stamped_empty 0, fun e he => by simp at he⟩, fun v _ => ⟨none, .inl ⟨rfl, fun e he => by simp at he⟩, rfl, zeroAV_ok te⟩⟩
theorem look_ok (hT : TOk E.P T) (h : SatR E st a w ρ) {t : Nat} {ok : Bool} {x y r : AV} {u v : Value} {obl : List Prop} (hl : lookF T st.ob t ok x y = some (obl, r)) (hx : R w (E.good w ρ) ρ x u) (hy : R w (E.good w ρ) ρ y v) :
    ∃ z, (Instr.lookup t u v ok).run E.P w = .ok z w ∧ R w (E.good w ρ) ρ r z := by
  unfold lookF at hl
  split at hl <;> try (cases hl; done)
  rename_i k v1
  have hv := hy.c_inv
  subst hv
  split at hl <;> try (cases hl; done)
  rename_i ti hti
  split at hl <;> try (cases hl; done)
  rename_i kt et hkd
  split at hl <;> try (cases hl; done)
  rename_i kk te hkk hte
  have hmap : E.P.underlying t = some (.map kt et) := by have := (hT t ti hti).kind; rw [hkd] at this; exact this
  have hdesc := keyKind_ok hT hkk
  have fin : ∀ {g : Nat} {es : Array MapEntry} {clock : Nat} {zv : Value} {d : Value → Bool} {f : Value → AV}, u = .map (some g) → w.heap[g]? = some (.map es clock) → (Go.MapKept.Stamped es clock ∧ ∀ e ∈ es.toList, Go.MapKept.IsKey kk.desc e.key) →
      kk.has v = true → zv = te.zv → (∃ q, Holds es.toList v q ∧ q.isSome = d v ∧ R w (E.good w ρ) ρ (f v) (q.getD zv)) → r = (bif ok then AV.tup [f v, .c (.bool (d v))] else f v) →
      ∃ z, (Instr.lookup t u v ok).run E.P w = .ok z w ∧ R w (E.good w ρ) ρ r z := by
    intro g es clock zv d f hu hh hes hkv hzv hq hr
    obtain ⟨q, q1, q2, q3⟩ := hq
    have hkey := KK.has_ok hkv
    subst hr
    have out : R w (E.good w ρ) ρ (bif ok then AV.tup [f v, .c (.bool (d v))] else f v) (if ok then .tuple #[q.getD zv, .bool q.isSome] else q.getD zv) := by
      cases ok with
      | false => simpa using q3
      | true =>
        refine .tup (by simp) fun i x hx => ?_
        match i with
        | 0 => simp at hx; subst hx; simpa using q3
        | 1 => simp at hx; subst hx; rw [← q2]; simpa using R.c
        | i + 2 => simp at hx
    refine ⟨_, ?_, out⟩
    subst hu
    rcases Go.MapKept.findNow_spec hkey es.toList 0 hes.2 with ⟨h1, h2⟩ | ⟨j, e, h1, h2, h3⟩
    · have hq' : q = none := q1.fn hes.1.2.2 (.inl ⟨rfl, h2⟩)
      subst hq'
      simp [Instr.lookup, run_underlying hmap, Go.MapKept.run_getObj_map hh, Go.MapKept.run_checkKey hdesc hkey, Go.MapKept.run_findKey hdesc h1, Result.andThen, (hT et te hte).run_zv w, hzv]
    · have hq' : q = some e.val := q1.fn hes.1.2.2 (.inr ⟨e, List.mem_of_getElem? h2, h3, rfl⟩)
      subst hq'
      simp [Instr.lookup, run_underlying hmap, Go.MapKept.run_getObj_map hh, Go.MapKept.run_checkKey hdesc hkey, Go.MapKept.run_findKey hdesc h1, Result.andThen]
  obtain ⟨g, hg, rfl⟩ : ∃ g, ρ k = some (.blk g) ∧ u = .map (some g) := by
    cases hx with | mp hk => exact ⟨_, hk, rfl⟩
  split at hl <;> try (cases hl; done)
  · rename_i kk' zv d f hob
    cases hc : KK.same kk kk' && kk.has v && zvSame zv te.zv with
    | false => simp [hc] at hl
    | true =>
      simp only [hc, cond_true, Option.some.injEq, Prod.mk.injEq] at hl
      obtain ⟨_, hr⟩ := hl
      simp only [Bool.and_eq_true] at hc
      have := KK.same_eq hc.1.1
      subst this
      obtain ⟨g', es, clock, g1, g2, g3, g4⟩ := h.ob k _ hob
      rw [hg] at g1
      injection g1 with g1
      injection g1 with g1
      subst g1
      obtain ⟨q, q1, q2, q3⟩ := g4 v (KK.has_ok hc.1.2)
      exact fin rfl g2 g3 hc.1.2 (zvSame_eq hc.2) ⟨q, q1, q2, q3.tr (fun b hb => ⟨hb, rfl⟩) _ (Le.none _)⟩ hr.symm
  · rename_i kk' zv d f hob
    cases hc : KK.same kk kk' && kk.has v && zvSame zv te.zv with
    | false => simp [hc] at hl
    | true =>
      simp only [hc, cond_true, Option.some.injEq, Prod.mk.injEq] at hl
      obtain ⟨_, hr⟩ := hl
      simp only [Bool.and_eq_true] at hc
      have := KK.same_eq hc.1.1
      subst this
      obtain ⟨g', es, clock, g1, g2, g3, g4⟩ := h.ob k _ hob
      rw [hg] at g1
      injection g1 with g1
      injection g1 with g1
      subst g1
      exact fin rfl g2 g3 hc.1.2 (zvSame_eq hc.2) (g4 v (KK.has_ok hc.1.2)) hr.symm
/-- A map's block, written. -/
theorem SatR.setMap (h : SatR E st a w ρ) {k g : Nat} {es es' : Array MapEntry} {clock clock' : Nat} {o : Ob} (hg : ρ k = some (.blk g)) (hh : w.heap[g]? = some (.map es clock))
    (ho : ∀ w', (∀ b, E.good w ρ b → E.good w' ρ b ∧ w'.heap[b]? = w.heap[b]?) → w'.heap[g]? = some (.map es' clock') → ObOk w' (E.good w' ρ) ρ k o) :
    SatR E { st with ob := upd st.ob k (some o) } a { w with heap := w.heap.setIfInBounds g (.map es' clock') } ρ := by
  have hu : upd ρ k (some (.blk g)) = ρ := by
    funext j
    by_cases hj : j = k
    · subst hj; rw [upd_same, hg]
    · rw [upd_other _ _ hj]
  have hs := Go.MapKept.heap_set (o' := .map es' clock') hh
  have := h.turn (k := k) (x := .blk g) (o := o) (w' := { w with heap := w.heap.setIfInBounds g (.map es' clock') }) (.inr (.inl hg))
    ⟨rfl, rfl, rfl, by simp, fun b _ hb => hs.2 b fun e => hb (by rw [hg, e]; rfl)⟩ (Nat.le_refl _) (fun b hb => .inl (by rw [hg]; exact hb)) fun hG hl => by
      rw [hu] at hG hl ⊢
      exact ho _ hG hs.1
  rwa [hu] at this
theorem mput_ok (hT : TOk E.P T) (h : SatR E st a w ρ) {t : Nat} {x y z : AV} {u v q : Value} {k : Nat} {o : Ob} (hl : mputF T st.ob t x y z = some (k, o)) (hx : R w (E.good w ρ) ρ x u) (hy : R w (E.good w ρ) ρ y v) (hz : R w (E.good w ρ) ρ z q) :
    ∃ w', (Instr.mapUpdate t u v q).run E.P w = .ok () w' ∧ SatR E { st with ob := upd st.ob k (some o) } a w' ρ := by
  unfold mputF at hl
  split at hl <;> try (cases hl; done)
  rename_i z1 k1 v1
  have hv := hy.c_inv
  subst hv
  split at hl <;> try (cases hl; done)
  rename_i ti hti
  split at hl <;> try (cases hl; done)
  rename_i kt et hkd
  split at hl <;> try (cases hl; done)
  rename_i kk hkk
  have hmap : E.P.underlying t = some (.map kt et) := by have := (hT t ti hti).kind; rw [hkd] at this; exact this
  have hdesc := keyKind_ok hT hkk
  obtain ⟨g, hg, rfl⟩ : ∃ g, ρ k1 = some (.blk g) ∧ u = .map (some g) := by
    cases hx with | mp hk => exact ⟨_, hk, rfl⟩
  -- what the entries become
  have ent : ∀ {es : Array MapEntry} {clock : Nat}, w.heap[g]? = some (.map es clock) → Go.MapKept.Stamped es clock → (∀ e ∈ es.toList, Go.MapKept.IsKey kk.desc e.key) → kk.has v = true →
      ∃ es' clock', (Instr.mapUpdate t (.map (some g)) v q).run E.P w = .ok () { w with heap := w.heap.setIfInBounds g (.map es' clock') } ∧ Go.MapKept.Stamped es' clock' ∧ (∀ e ∈ es'.toList, Go.MapKept.IsKey kk.desc e.key) ∧
        Holds es'.toList v (some q) ∧ ∀ u r, u ≠ v → Holds es.toList u r → Holds es'.toList u r := by
    intro es clock hb hs hks hkv
    have hkey := KK.has_ok hkv
    rcases Go.MapKept.findNow_spec hkey es.toList 0 hks with ⟨h1, h2⟩ | ⟨j, e, h1, h2, h3⟩
    · refine ⟨es.push { key := v, val := q, born := clock }, clock + 1, ?_, Go.MapKept.stamped_push hs h2, ?_, .inr ⟨{ key := v, val := q, born := clock }, by simp, rfl, rfl⟩, ?_⟩
      · simp [Instr.mapUpdate, run_underlying hmap, Go.MapKept.run_getObj_map hb, Go.MapKept.run_checkKey hdesc hkey, Go.MapKept.run_findKey hdesc h1, Go.MapKept.run_setObj_map _ hb, Result.andThen]
      · intro x hx
        simp only [Array.toList_push, List.mem_append, List.mem_singleton] at hx
        rcases hx with hx | rfl
        · exact hks x hx
        · exact hkey
      · intro u r hu hr
        rcases hr with ⟨rfl, hr⟩ | ⟨e, he, hk, rfl⟩
        · refine .inl ⟨rfl, fun e he => ?_⟩
          simp only [Array.toList_push, List.mem_append, List.mem_singleton] at he
          rcases he with he | rfl
          · exact hr e he
          · exact fun h => hu h.symm
        · exact .inr ⟨e, by simp [he], hk, rfl⟩
    · have hj : es[j]? = some e := by simpa using h2
      have hkey' : ∀ e', es[j]? = some e' → ({ e' with key := v, val := q } : MapEntry).key = e'.key := fun e' he' => by rw [hj] at he'; cases he'; exact h3.symm
      have hget : ∀ i, (es.modify j fun e => { e with key := v, val := q }).toList[i]? = if i = j then some { e with key := v, val := q } else es.toList[i]? := by
        intro i
        simp only [Array.getElem?_toList, Array.getElem?_modify]
        by_cases hij : j = i
        · subst hij; simp [hj]
        · simp [hij, Ne.symm hij]
      refine ⟨es.modify j fun e => { e with key := v, val := q }, clock, ?_, Go.MapKept.stamped_modify hs _ _ (fun _ _ => rfl) (fun e' _ he' => hkey' e' he'), Go.MapKept.isKey_modify hks _ _ hkey', ?_, ?_⟩
      · simp [Instr.mapUpdate, run_underlying hmap, Go.MapKept.run_getObj_map hb, Go.MapKept.run_checkKey hdesc hkey, Go.MapKept.run_findKey hdesc h1, hj, h3, Go.MapKept.run_keyThatStays hkey, Go.MapKept.run_setObj_map _ hb, Result.andThen]
      · exact .inr ⟨{ e with key := v, val := q }, List.mem_of_getElem? (i := j) (by rw [hget j, if_pos rfl]), rfl, rfl⟩
      · intro u r hu hr
        rcases hr with ⟨rfl, hr⟩ | ⟨e1, he, hk, rfl⟩
        · refine .inl ⟨rfl, fun e' he' => ?_⟩
          obtain ⟨i, hi⟩ := List.mem_iff_getElem?.1 he'
          rw [hget i] at hi
          split at hi
          · injection hi with hi; subst hi; exact fun h => hu h.symm
          · exact hr e' (List.mem_of_getElem? hi)
        · obtain ⟨i, hi⟩ := List.mem_iff_getElem?.1 he
          have hij : i ≠ j := by
            rintro rfl
            rw [h2] at hi
            injection hi with hi
            subst hi
            exact hu (hk.symm.trans h3)
          exact .inr ⟨e1, List.mem_of_getElem? (i := i) (by rw [hget i, if_neg hij]; exact hi), hk, rfl⟩
  split at hl <;> try (cases hl; done)
  · rename_i kk' zv d f hob
    cases hc : KK.same kk kk' && kk.has v && z.ks (fun _ => false) with
    | false => simp [hc] at hl
    | true =>
      simp only [hc, cond_true, Option.some.injEq, Prod.mk.injEq] at hl
      obtain ⟨rfl, rfl⟩ := hl
      simp only [Bool.and_eq_true] at hc
      have := KK.same_eq hc.1.1
      subst this
      obtain ⟨g', es, clock, g1, g2, g3, g4⟩ := h.ob _ _ hob
      rw [hg] at g1
      injection g1 with g1
      injection g1 with g1
      subst g1
      obtain ⟨es', clock', e1, e2, e3, e4, e5⟩ := ent g2 g3.1 g3.2 hc.1.2
      refine ⟨_, e1, h.setMap hg g2 fun w' hG hh => ⟨g, es', clock', hg, hh, ⟨e2, e3⟩, fun s hs => ?_⟩⟩
      cases hkq : keyEq s v with
      | true =>
        have := (keyEq_iff hs (KK.has_ok hc.1.2)).1 hkq
        subst this
        exact ⟨some q, e4, by simp [hkq], by simpa [hkq] using (hz.tr hG _ (Le.refl _)).free hc.2⟩
      | false =>
        have hne : s ≠ v := fun e => by rw [(keyEq_iff hs (KK.has_ok hc.1.2)).2 e] at hkq; cases hkq
        obtain ⟨r, r1, r2, r3⟩ := g4 s hs
        exact ⟨r, e5 s r hne r1, by simp [hkq, r2], by simpa [hkq] using r3.tr hG _ (Le.refl _)⟩
  · rename_i kk' zv d f hob
    cases hc : KK.same kk kk' && kk.has v with
    | false => simp [hc] at hl
    | true =>
      simp only [hc, cond_true, Option.some.injEq, Prod.mk.injEq] at hl
      obtain ⟨rfl, rfl⟩ := hl
      simp only [Bool.and_eq_true] at hc
      have := KK.same_eq hc.1
      subst this
      obtain ⟨g', es, clock, g1, g2, g3, g4⟩ := h.ob _ _ hob
      rw [hg] at g1
      injection g1 with g1
      injection g1 with g1
      subst g1
      obtain ⟨es', clock', e1, e2, e3, e4, e5⟩ := ent g2 g3.1 g3.2 hc.2
      refine ⟨_, e1, h.setMap hg g2 fun w' hG hh => ⟨g, es', clock', hg, hh, ⟨e2, e3⟩, fun s hs => ?_⟩⟩
      cases hkq : keyEq s v with
      | true =>
        have := (keyEq_iff hs (KK.has_ok hc.2)).1 hkq
        subst this
        exact ⟨some q, e4, by simp [hkq], by simpa [hkq] using hz.tr hG _ (Le.refl _)⟩
      | false =>
        have hne : s ≠ v := fun e => by rw [(keyEq_iff hs (KK.has_ok hc.2)).2 e] at hkq; cases hkq
        obtain ⟨r, r1, r2, r3⟩ := g4 s hs
        exact ⟨r, e5 s r hne r1, by simp [hkq, r2], by simpa [hkq] using r3.tr hG _ (Le.refl _)⟩
theorem effF_ok (hT : TOk E.P T) (h : SatR E st a w ρ) {o : Oper} {d : Nat} {e : Operand → AV} {obl : List Prop} {eff : Eff} (he : ∀ x ∈ o.op.operands, R w (E.good w ρ) ρ (e x) (a.eval x))
    (hf : effF T st d e o.op = some (obl, eff)) (ho : ∀ p ∈ obl, p) :
    ∃ n w' ρ', (execOp a.eval o).run E.P w = .ok n w' ∧ SatR E (st.app none eff) a w' ρ' ∧ ((∃ z, n = .value z ∧ R w' (E.good w' ρ') ρ' eff.av z) ∨ (n = .skip ∧ eff.av = .junk)) := by
  have hval : (match valF T st.ob (st.md d) e o.op with
    | some (obl, x) => some (obl, (⟨x, none⟩ : Eff))
    | none => none) = some (obl, eff) → ∃ n w' ρ', (execOp a.eval o).run E.P w = .ok n w' ∧ SatR E (st.app none eff) a w' ρ' ∧ ((∃ z, n = .value z ∧ R w' (E.good w' ρ') ρ' eff.av z) ∨ (n = .skip ∧ eff.av = .junk)) := by
    intro hv
    split at hv
    · rename_i obl' x hx
      simp only [Option.some.injEq, Prod.mk.injEq] at hv
      obtain ⟨rfl, rfl⟩ := hv
      obtain ⟨z, h1, h2⟩ := valF_ok hT h he hx ho
      exact ⟨_, w, ρ, h1, h, .inl ⟨z, rfl, h2⟩⟩
    · cases hv
  obtain ⟨dst, op, type, pos, after, guard⟩ := o
  simp only at he hf hval
  unfold effF effG at hf
  split at hf
  · rename_i t
    split at hf
    · rename_i ti ht hk
      split at hf
      · rename_i x o hn
        simp only [Option.some.injEq, Prod.mk.injEq] at hf
        obtain ⟨rfl, rfl⟩ := hf
        obtain ⟨z, hz, hzc⟩ := (hT t ti ht).run_zero w
        obtain ⟨ρ', h1, h2⟩ := newObj_ok h hn hk (arr := z.cells) (by rw [hzc]; simp) (fun i y hy => by
          simp only [List.getElem?_map, Option.map_eq_some_iff] at hy
          obtain ⟨v, hv, rfl⟩ := hy
          have : z.cells.getD i undef = v := by rw [hzc]; simp [hv]
          rw [this]; exact .c)
        exact ⟨.value (.pointer (some ⟨w.heap.size, 0, none⟩)), w.alloc (.cells z.cells t), ρ', by simp [execOp, Instr.alloc, hz, newVar, newRow], by rw [app_none]; exact h1, .inl ⟨_, rfl, h2⟩⟩
      · cases hf
    · cases hf
  · rename_i t x
    split at hf
    · rename_i l hl hk
      split at hf
      · rename_i y o hn
        simp only [Option.some.injEq, Prod.mk.injEq] at hf
        obtain ⟨rfl, rfl⟩ := hf
        obtain ⟨hs, hr⟩ := h.cells hl (he x (by simp [Op.operands]))
        obtain ⟨ρ', h1, h2⟩ := newObj_ok h hn hk (arr := (a.eval x).cells) hs hr
        exact ⟨.value (.pointer (some ⟨w.heap.size, 0, none⟩)), w.alloc (.cells (a.eval x).cells t), ρ', by simp [execOp, Instr.box, newVar, newRow], by rw [app_none]; exact h1, .inl ⟨_, rfl, h2⟩⟩
      · cases hf
    · cases hf
  · rename_i t len parts
    split at hf
    · rename_i el sz l hb
      obtain ⟨arr, h1, h2, h3, h4, h5⟩ := bs_run hT h (fun p hp => he p.2 (by simp [Op.operands]; exact ⟨p.1, by simpa using hp⟩)) hb
      cases hks : AV.ksL (fun _ => false) l with
      | false => simp [hks] at hf
      | true =>
        simp only [hks, cond_true] at hf
        cases hmd : st.md d with
        | true =>
          simp only [hmd, cond_true] at hf
          split at hf
          · rename_i hk
            simp only [Option.some.injEq, Prod.mk.injEq] at hf
            obtain ⟨rfl, rfl⟩ := hf
            have h6 := h.allocRow (n := len) (cap := len) (sz := sz) (f := rowOf l sz) (e := el) (arr := arr) hk (Nat.le_refl _) (by simp only [maxLen]; omega) (by omega) (fun i hi => rowOf_length h3 hi) (fun i j y hi hy => by
              obtain ⟨_, hy'⟩ := rowOf_get hy
              exact (h5 _ y hy').free (AV.ksL_at hks hy'))
            exact ⟨_, _, _, by simp only [execOp]; rw [Sem.run_bind, h1]; rfl, h6, .inl ⟨_, rfl, .vec (upd_same _ _ _)⟩⟩
          · cases hf
        | false =>
          simp only [hmd, cond_false, Option.some.injEq, Prod.mk.injEq] at hf
          obtain ⟨rfl, rfl⟩ := hf
          have hkeep : Keep (fun _ => False) w (w.alloc (.cells arr el)) := Keep.of_below ((Go.RowKit.Below.refl _ _).alloc (Nat.le_refl _) _) (Nat.le_refl _)
          have hc := h.called hkeep
          refine ⟨_, _, ρ, by simp only [execOp]; rw [Sem.run_bind, h1]; rfl, hc, .inl ⟨_, rfl, R.rs_mk (A := some ⟨w.heap.size, 0, none⟩) (Nat.le_refl _) (by simp only [maxLen]; omega) (fun i hi => rowOf_length h3 hi) fun _ => ⟨_, rfl, ⟨.inr (.inl h.keep.size), by simp, fun k x hx hb' => ?_⟩, fun i hi j y hy => ?_⟩⟩⟩
          · exact absurd (h.lt hx hb') (Nat.lt_irrefl _)
          · obtain ⟨hj, hy'⟩ := rowOf_get hy
            have hlt : i * sz + j < arr.size := by rw [h2]; exact (List.getElem?_eq_some_iff.1 hy').1
            refine ⟨arr.getD (i * sz + j) undef, ?_, ?_⟩
            · rw [add_add, Addr.add_lit, Nat.zero_add, World.cell?_alloc_new]
              simp [hlt]
            · have hG : ∀ b, E.good w ρ b → E.good (w.alloc (.cells arr el)) ρ b ∧ (w.alloc (.cells arr el)).heap[b]? = w.heap[b]? := fun b ⟨q0, q1, q2⟩ => ⟨⟨q0, Nat.lt_of_lt_of_le q1 hkeep.size, q2⟩, hkeep.block b q1 id⟩
              exact ((h5 _ y hy').tr hG _ (Le.refl _)).free (AV.ksL_at hks hy')
    · cases hf
  · rename_i t x y
    split at hf
    · rename_i hk
      obtain ⟨z, w', ρ', o, h1, h2, h3, h4⟩ := make_ok hT h hf ho hk (he x (by simp [Op.operands])) (he y (by simp [Op.operands]))
      obtain ⟨av, ob⟩ := eff
      simp only at h2
      subst h2
      exact ⟨_, w', ρ', by simp [execOp, h1], by rw [app_none]; exact h3, .inl ⟨z, rfl, h4⟩⟩
    · cases hf
  · rename_i t x y
    split at hf
    · rename_i k o hs
      simp only [Option.some.injEq, Prod.mk.injEq] at hf
      obtain ⟨rfl, rfl⟩ := hf
      obtain ⟨w', h1, h2⟩ := storeF_ok hT h hs (he x (by simp [Op.operands])) (he y (by simp [Op.operands]))
      exact ⟨_, w', ρ, by simp [execOp, h1], by rw [app_none]; exact h2, .inr ⟨rfl, rfl⟩⟩
    · cases hf
  · rename_i t
    split at hf
    · rename_i hk
      obtain ⟨z, w', ρ', o, h1, h2, h3, h4⟩ := makeMap_ok h hf hk
      obtain ⟨av, ob⟩ := eff
      simp only at h2
      subst h2
      exact ⟨_, w', ρ', by simp [execOp, h1], by rw [app_none]; exact h3, .inl ⟨z, rfl, h4⟩⟩
    · cases hf
  · rename_i t x i ok
    split at hf
    · rename_i obl' r hl
      simp only [Option.some.injEq, Prod.mk.injEq] at hf
      obtain ⟨rfl, rfl⟩ := hf
      obtain ⟨z, h1, h2⟩ := look_ok hT h hl (he x (by simp [Op.operands])) (he i (by simp [Op.operands]))
      exact ⟨_, w, ρ, by simp [execOp, h1], h, .inl ⟨z, rfl, h2⟩⟩
    · cases hf
  · rename_i t m i x
    split at hf
    · rename_i k o hs
      simp only [Option.some.injEq, Prod.mk.injEq] at hf
      obtain ⟨rfl, rfl⟩ := hf
      obtain ⟨w', h1, h2⟩ := mput_ok hT h hs (he m (by simp [Op.operands])) (he i (by simp [Op.operands])) (he x (by simp [Op.operands]))
      exact ⟨_, w', ρ, by simp [execOp, h1], by rw [app_none]; exact h2, .inr ⟨rfl, rfl⟩⟩
    · cases hf
  · rename_i t m i x
    split at hf
    · rename_i k o hs
      simp only [Option.some.injEq, Prod.mk.injEq] at hf
      obtain ⟨rfl, rfl⟩ := hf
      obtain ⟨w', h1, h2⟩ := mput_ok hT h hs (he m (by simp [Op.operands])) (he i (by simp [Op.operands])) (he x (by simp [Op.operands]))
      exact ⟨_, w', ρ, by simp [execOp, h1], by rw [app_none]; exact h2, .inr ⟨rfl, rfl⟩⟩
    · cases hf
  · rename_i c
    split at hf
    · rename_i s x t t' c1 c2 c3
      cases hb : Nat.beq t t' with
      | false => simp [hb] at hf
      | true =>
        have := Nat.eq_of_beq_eq_true hb
        subst this
        simp only [hb, cond_true] at hf
        obtain ⟨callee, args, argTypes⟩ := c
        simp only at c1 c2 c3
        subst c1
        have hargs : args = #[s, x] := by rw [← Array.toList_inj]; simpa using c2
        have htys : argTypes = #[t, t] := by rw [← Array.toList_inj]; simpa using c3
        subst hargs htys
        obtain ⟨z, w', ρ', k', o, h1, h2, h3, h4⟩ := append_ok (ty := type) hT h hf ho (he s (by simp [Op.operands, Call.operands])) (he x (by simp [Op.operands, Call.operands]))
        obtain ⟨av, ob⟩ := eff
        simp only at h2
        subst h2
        exact ⟨_, w', ρ', by simp [execOp, resolve, invoke, builtin, h1], by rw [app_none]; exact h3, .inl ⟨z, rfl, h4⟩⟩
    · rename_i s x t t' c1 c2 c3
      cases hb : Nat.beq t t' with
      | false => simp [hb] at hf
      | true =>
        have := Nat.eq_of_beq_eq_true hb
        subst this
        simp only [hb, cond_true] at hf
        obtain ⟨callee, args, argTypes⟩ := c
        simp only at c1 c2 c3
        subst c1
        have hargs : args = #[s, x] := by rw [← Array.toList_inj]; simpa using c2
        have htys : argTypes = #[t, t] := by rw [← Array.toList_inj]; simpa using c3
        subst hargs htys
        obtain ⟨z, w', k', o, h1, h2, h3, h4⟩ := copy_ok (ty := type) hT h hf ho (he s (by simp [Op.operands, Call.operands])) (he x (by simp [Op.operands, Call.operands]))
        obtain ⟨av, ob⟩ := eff
        simp only at h2
        subst h2
        exact ⟨_, w', ρ, by simp [execOp, resolve, invoke, builtin, h1], by rw [app_none]; exact h3, .inl ⟨z, rfl, h4⟩⟩
    · exact hval hf
  · exact hval hf
def constIs (b : Bool) : Operand → Bool
  | .const (.bool c) => c == b
  | _ => false
/-- c ? x : y, as && and || leave it. -/
def pickF (st : ST) (gc : Option Bool) (c x y : Operand) : Option (List Prop × AV) :=
  match strip (st.ev c) with
  | .c (.bool b) =>
    bif constIs true x then (match strip (st.ev y) with
      | .c (.bool v) => some (oblG gc (st.ev c) ++ (match st.ev y with | .gd g _ => [impG gc (b = false → g = true)] | _ => []), .c (.bool (b || v)))
      | _ => none)
    else bif constIs false y then (match strip (st.ev x) with
      | .c (.bool u) => some (oblG gc (st.ev c) ++ (match st.ev x with | .gd g _ => [impG gc (b = true → g = true)] | _ => []), .c (.bool (b && u)))
      | _ => none)
    else (match strip (st.ev x), strip (st.ev y) with
      | .c (.bool u), .c (.bool v) => some (oblG gc (st.ev c) ++ ((match st.ev x with | .gd g _ => [impG gc (b = true → g = true)] | _ => []) ++ (match st.ev y with | .gd g _ => [impG gc (b = false → g = true)] | _ => [])), .c (.bool (bif b then u else v)))
      | _, _ => none)
  | _ => none
theorem constIs_eval {b : Bool} {x : Operand} (h : constIs b x = true) (a : Act) : a.eval x = .bool b := by
  cases x with
  | const v => cases v <;> simp_all [constIs, Act.eval]
  | _ => simp [constIs] at h
theorem strip_ok {w : World} {G : Nat → Prop} {ρ : Rho} {x : AV} {v : Value} {gc : Option Bool} (hgc : ∀ g, gc = some g → g = true) (ho : ∀ p ∈ oblG gc x, p) (h : R w G ρ x v) : R w G ρ (strip x) v := by
  cases x with
  | gd g a =>
    have : impG gc (g = true) := ho _ (by simp [oblG])
    have hg : g = true := by
      cases gc with
      | none => exact this
      | some g' => exact this (hgc g' rfl)
    exact h.gd_inv.1 hg
  | _ => exact h
theorem strip_of {w : World} {G : Nat → Prop} {ρ : Rho} {x : AV} {v : Value} (hg : ∀ g a, x = .gd g a → g = true) (h : R w G ρ x v) : R w G ρ (strip x) v := by
  cases x with
  | gd g a => exact h.gd_inv.1 (hg g a rfl)
  | _ => exact h
theorem pickF_ok (h : SatR E st a w ρ) {o : Oper} {c x y : Operand} (hop : o.op = .pick c x y) {gc : Option Bool} {obl : List Prop} {r : AV} (hgc : ∀ g, gc = some g → g = true)
    (hp : pickF st gc c x y = some (obl, r)) (ho : ∀ p ∈ obl, p) : ∃ z, (execOp a.eval o).run E.P w = .ok (.value z) w ∧ R w (E.good w ρ) ρ r z := by
  have fin : ∀ b, a.eval c = .bool b → (execOp a.eval o).run E.P w = .ok (.value (if b then a.eval x else a.eval y)) w := by
    intro b hb
    simp [execOp, hop, hb, asBool]
  have un : ∀ {p : Prop}, impG gc p → p := by
    intro p hi
    cases gc with
    | none => exact hi
    | some g => exact hi (hgc g rfl)
  unfold pickF at hp
  split at hp
  · rename_i b hc
    have hcb : ∀ l, (∀ p ∈ oblG gc (st.ev c) ++ l, p) → a.eval c = .bool b := fun l hl => by
      have hcv := strip_ok hgc (fun p hp => hl p (List.mem_append_left _ hp)) (h.ev c)
      rw [hc] at hcv
      exact hcv.c_inv
    cases h1 : constIs true x with
    | true =>
      simp only [h1, cond_true] at hp
      split at hp
      · rename_i v hv
        simp only [Option.some.injEq, Prod.mk.injEq] at hp
        obtain ⟨rfl, rfl⟩ := hp
        refine ⟨_, fin b (hcb _ ho), ?_⟩
        cases b with
        | true => rw [if_pos rfl, constIs_eval h1]; exact .c
        | false =>
          have := strip_of (fun g' a' he => un (ho (impG gc (false = false → g' = true)) (List.mem_append_right _ (by rw [he]; simp))) rfl) (h.ev y)
          rw [hv] at this
          simpa using this
      · cases hp
    | false =>
      simp only [h1, cond_false] at hp
      cases h2 : constIs false y with
      | true =>
        simp only [h2, cond_true] at hp
        split at hp
        · rename_i u hu
          simp only [Option.some.injEq, Prod.mk.injEq] at hp
          obtain ⟨rfl, rfl⟩ := hp
          refine ⟨_, fin b (hcb _ ho), ?_⟩
          cases b with
          | false => rw [if_neg (by simp), constIs_eval h2]; exact .c
          | true =>
            have := strip_of (fun g' a' he => un (ho (impG gc (true = true → g' = true)) (List.mem_append_right _ (by rw [he]; simp))) rfl) (h.ev x)
            rw [hu] at this
            simpa using this
        · cases hp
      | false =>
        simp only [h2, cond_false] at hp
        split at hp
        · rename_i u v hu hv
          simp only [Option.some.injEq, Prod.mk.injEq] at hp
          obtain ⟨rfl, rfl⟩ := hp
          refine ⟨_, fin b (hcb _ ho), ?_⟩
          cases b with
          | true =>
            have := strip_of (fun g' a' he => un (ho (impG gc (true = true → g' = true)) (List.mem_append_right _ (List.mem_append_left _ (by rw [he]; simp)))) rfl) (h.ev x)
            rw [hu] at this
            simpa using this
          | false =>
            have := strip_of (fun g' a' he => un (ho (impG gc (false = false → g' = true)) (List.mem_append_right _ (List.mem_append_right _ (by rw [he]; simp)))) rfl) (h.ev y)
            rw [hv] at this
            simpa using this
        · cases hp
  · cases hp
/-- Whether the guard lets the operation run. -/
def gval (st : ST) (l : List Oper) (j : Nat) (pol : Bool) : Option Bool :=
  match l[j]? with
  | some o => match o.dst with
    | some d => match st.fr d with
      | .c (.bool b) => (match pol with
        | true => some b
        | false => some (!b))
      | .gd g (.c (.bool b)) => (match pol with
        | true => some (g && b)
        | false => some (g && !b))
      | _ => none
    | none => none
  | none => none
theorem gval_ok (h : SatR E st a w ρ) {ops : Array Oper} {j : Nat} {pol g : Bool} (hg : gval st ops.toList j pol = some g) (hd : ∀ o d, ops[j]? = some o → o.dst = some d → d < st.nt) :
    (yielded ops a.tmps j == some pol) = g := by
  unfold gval at hg
  split at hg
  · rename_i o ho
    split at hg
    · rename_i d hdst
      have ho' : ops[j]? = some o := by simpa using ho
      have hlt : d < a.tmps.size := h.tsz ▸ hd o d ho' hdst
      have hfr := h.fr d
      have hy : yielded ops a.tmps j = match a.tmps.getD d undef with | .bool b => some b | _ => none := by
        simp only [yielded, ho', Option.bind_some, hdst]
        simp [hlt]
        split <;> simp_all
      split at hg
      · rename_i b hb
        rw [hb] at hfr
        rw [hy, hfr.c_inv]
        cases pol <;> simp only [Option.some.injEq] at hg <;> subst hg <;> cases b <;> rfl
      · rename_i g' b hb
        rw [hb] at hfr
        obtain ⟨h1, h2⟩ := hfr.gd_inv
        rw [hy]
        cases g' with
        | true => rw [(h1 rfl).c_inv]; cases pol <;> simp only [Option.some.injEq] at hg <;> subst hg <;> cases b <;> rfl
        | false => rw [h2 rfl]; cases pol <;> simp only [Option.some.injEq] at hg <;> subst hg <;> rfl
      · cases hg
    · cases hg
  · cases hg
/-- One operation of a region 'l'. -/
def stepG (T : TE) (l : List Oper) (st : ST) (k : Nat) (o : Oper) : Option (List Prop × Eff) :=
  match o.guard with
  | none => match o.op with
    | .pick c x y => match pickF st none c x y with
      | some (obl, r) => some (obl, ⟨r, none⟩)
      | none => none
    | op => match effG T st (o.dst.getD 0) k (fun x => strip (st.ev x)) op with
      | some (obl, eff) => some (op.operands.toList.flatMap (fun x => oblG none (st.ev x)) ++ obl, eff)
      | none => none
  | some (j, pol) => match gval st l j pol with
    | some g => match o.op with
      | .pick c x y => match pickF st (some g) c x y with
        | some (obl, r) => some (obl, ⟨.gd g r, none⟩)
        | none => none
      | op => match effG T st (o.dst.getD 0) k (fun x => strip (st.ev x)) op with
        | some (obl, ⟨x, none⟩) => some (op.operands.toList.flatMap (fun x => oblG (some g) (st.ev x)) ++ obl.map (impG (some g)), ⟨.gd g x, none⟩)
        | _ => none
    | none => none
def stepF (T : TE) (l : List Oper) (st : ST) (o : Oper) : Option (List Prop × Eff) := stepG T l st (st.nx + o.dst.getD 0) o
/-- The same, the new object's name and what is asked written out. -/
def stepN (T : TE) (l : List Oper) (fr : Nat → AV) (ob : Nat → Option Ob) (nx nt : Nat) (md : Nat → Bool) (o : Oper) : Option (List Prop × Eff) := match (match o.dst with
    | some d => stepG T l ⟨fr, ob, nx, nt, md⟩ (nx + d) o
    | none => stepG T l ⟨fr, ob, nx, nt, md⟩ nx o) with
  | some (obl, e) => match frcP obl with
    | some obl' => some (obl', e)
    | none => none
  | none => none
theorem stepN_eq {T : TE} {l : List Oper} {fr : Nat → AV} {ob : Nat → Option Ob} {nx nt : Nat} {md : Nat → Bool} {o : Oper} : stepN T l fr ob nx nt md o = stepF T l ⟨fr, ob, nx, nt, md⟩ o := by
  have key : ∀ r : Option (List Prop × Eff), (match r with
    | some (obl, e) => (match frcP obl with
      | some obl' => some (obl', e)
      | none => none)
    | none => none) = r := fun r => by
    cases r with
    | none => rfl
    | some x => simp [frcP_self]
  unfold stepN stepF
  rw [key]
  cases h : o.dst <;> rfl
theorem defer_run {P : Program} {o : Oper} {ρ : Operand → Value} {c : Call} {w w' : World} {n : Next} (ho : o.op = .defer c) (h : (execOp ρ o).run P w = .ok n w') : ∃ d, n = .defer d := by
  simp only [execOp, ho, Sem.run_bind] at h
  cases hr : (resolve ρ c o.type).run P w with
  | ok d w1 =>
    rw [hr] at h
    simp [Result.andThen] at h
    exact ⟨_, h.1.symm⟩
  | halt x w1 =>
    rw [hr] at h
    simp [Result.andThen] at h
/-- An operation, by its run. -/
theorem wpIn_run {rd : Option Nat} {P : Program} {o : Oper} {a : Act} {w w' : World} {n : Next} {next : Act → World → Prop} {Q : Exit → Act → World → Prop} (h1 : (execOp a.eval o).run P w = .ok n w') (hn : ∀ d, n ≠ .defer d)
    (h : o.uponIn (FW rd) 0 P a next Q (.ok n w')) : o.wpIn (FW rd) 0 P a w next Q := by
  refine ⟨fun _ _ => trivial, ?_⟩
  rw [Oper.semAt_eq _ _ _ (fun c hc => by obtain ⟨d, hd⟩ := defer_run hc h1; exact hn d hd), h1]
  exact h
theorem Calls.fw {P : Program} {f : FuncId} {vs : Array Value} {w : World} {R : Ending → World → Prop} (h : Calls P f vs w R) (rd : Option Nat) (n : Nat) : CallsIn (FW rd) n P f vs w R :=
  (callsIn_wide (n := n)).2 h
def StepTo (E : Env) (ops : Array Oper) (o : Oper) (st st' : ST) : Prop :=
  ∀ a w, Sat E st a w → ∀ Q, if Region.wanted o (yielded ops a.tmps) then o.wpIn (FW E.rd) 0 E.P a w (fun a' w' => Sat E st' a' w') Q else Sat E st' (a.put o.dst undef) w
def dstOk (st : ST) (o : Oper) : Bool := match o.dst with
  | some d => Nat.blt d st.nt
  | none => true
theorem SatR.put_app {eff : Eff} {dst : Option Nat} (h : SatR E (st.app none eff) a w ρ) (hd : ∀ d, dst = some d → d < st.nt) {v : Value} (hr : R w (E.good w ρ) ρ eff.av v) : SatR E (st.app dst eff) (a.put dst v) w ρ := by
  cases dst with
  | none => exact h
  | some d =>
    have := h.put (d := d) (x := eff.av) (hd d rfl) hr
    exact this
theorem dstOk_lt {o : Oper} (h : dstOk st o = true) : ∀ d, o.dst = some d → d < st.nt := by
  intro d hd
  simp only [dstOk, hd] at h
  exact Nat.lt_of_succ_le (Nat.le_of_ble_eq_true h)
theorem stepF_ok (hT : TOk E.P T) {ops : Array Oper} {o : Oper} {obl : List Prop} {eff : Eff} (hs : stepF T ops.toList st o = some (obl, eff)) (ho : ∀ p ∈ obl, p) (hd : dstOk st o = true)
    (hg : ∀ j pol o' d, o.guard = some (j, pol) → ops[j]? = some o' → o'.dst = some d → d < st.nt) : StepTo E ops o st (st.app o.dst eff) := by
  intro a w ⟨ρ, h⟩ Q
  have hdl := dstOk_lt hd
  unfold stepF stepG at hs
  split at hs
  · rename_i hgd
    have hw : Region.wanted o (yielded ops a.tmps) = true := by simp [Region.wanted, hgd]
    rw [if_pos hw]
    split at hs
    · rename_i c x y hop
      split at hs
      · rename_i obl' r hp
        simp only [Option.some.injEq, Prod.mk.injEq] at hs
        obtain ⟨rfl, rfl⟩ := hs
        obtain ⟨z, h1, h2⟩ := pickF_ok h hop (fun g hg => by cases hg) hp ho
        refine wpIn_run h1 (fun _ e => by cases e) ?_
        exact ⟨ρ, SatR.put_app (eff := ⟨r, none⟩) (dst := o.dst) h hdl h2⟩
      · cases hs
    · split at hs
      · rename_i obl' eff' he
        simp only [Option.some.injEq, Prod.mk.injEq] at hs
        obtain ⟨rfl, rfl⟩ := hs
        obtain ⟨n, w', ρ', h1, h2, h3⟩ := effF_ok hT h (fun x hx => strip_ok (gc := none) (fun g hg => by cases hg) (fun p hp => ho p (List.mem_append_left _ (List.mem_flatMap.2 ⟨x, by simpa using hx, hp⟩))) (h.ev x)) he (fun p hp => ho p (List.mem_append_right _ hp))
        rcases h3 with ⟨z, rfl, hz⟩ | ⟨rfl, hj⟩ <;> refine wpIn_run h1 (fun _ e => by cases e) ?_
        · exact ⟨ρ', SatR.put_app (dst := o.dst) h2 hdl hz⟩
        · exact ⟨ρ', SatR.put_app (dst := o.dst) h2 hdl (by rw [hj]; exact .junk)⟩
      · cases hs
  · rename_i j pol hgd
    split at hs
    · rename_i g hgv
      have hwv : Region.wanted o (yielded ops a.tmps) = g := by
        have := gval_ok h hgv (fun o' d h1 h2 => hg j pol o' d hgd h1 h2)
        simp only [Region.wanted, hgd, this]
      cases hgb : g with
      | false =>
        subst hgb
        rw [if_neg (by rw [hwv]; simp)]
        have key : ∀ x, SatR E (st.app o.dst ⟨.gd false x, none⟩) (a.put o.dst undef) w ρ := fun x =>
          SatR.put_app (eff := ⟨.gd false x, none⟩) (dst := o.dst) h hdl (.gd (fun e => by cases e) fun _ => rfl)
        split at hs
        · split at hs
          · simp only [Option.some.injEq, Prod.mk.injEq] at hs
            obtain ⟨rfl, rfl⟩ := hs
            exact ⟨ρ, key _⟩
          · cases hs
        · split at hs
          · simp only [Option.some.injEq, Prod.mk.injEq] at hs
            obtain ⟨rfl, rfl⟩ := hs
            exact ⟨ρ, key _⟩
          · cases hs
      | true =>
        subst hgb
        rw [if_pos hwv]
        split at hs
        · rename_i c x y hop
          split at hs
          · rename_i obl' r hp
            simp only [Option.some.injEq, Prod.mk.injEq] at hs
            obtain ⟨rfl, rfl⟩ := hs
            obtain ⟨z, h1, h2⟩ := pickF_ok h hop (fun g hg => by injection hg with hg; exact hg.symm) hp ho
            refine wpIn_run h1 (fun _ e => by cases e) ?_
            exact ⟨ρ, SatR.put_app (eff := ⟨.gd true r, none⟩) (dst := o.dst) h hdl (.gd (fun _ => h2) fun e => by cases e)⟩
          · cases hs
        · split at hs
          · rename_i obl' x he
            simp only [Option.some.injEq, Prod.mk.injEq] at hs
            obtain ⟨rfl, rfl⟩ := hs
            obtain ⟨n, w', ρ', h1, h2, h3⟩ := effF_ok hT h (fun x hx => strip_ok (gc := some true) (fun g hg => by injection hg with hg; exact hg.symm) (fun p hp => ho p (List.mem_append_left _ (List.mem_flatMap.2 ⟨x, by simpa using hx, hp⟩))) (h.ev x)) he
              (fun p hp => ho (impG (some true) p) (List.mem_append_right _ (List.mem_map.2 ⟨p, hp, rfl⟩)) rfl)
            rcases h3 with ⟨z, rfl, hz⟩ | ⟨rfl, hj⟩ <;> refine wpIn_run h1 (fun _ e => by cases e) ?_
            · exact ⟨ρ', SatR.put_app (eff := ⟨.gd true x, none⟩) (dst := o.dst) h2 hdl (.gd (fun _ => hz) fun e => by cases e)⟩
            · exact ⟨ρ', SatR.put_app (eff := ⟨.gd true x, none⟩) (dst := o.dst) h2 hdl (.gd (fun _ => by simp only at hj; rw [hj]; exact .junk) fun e => by cases e)⟩
          · cases hs
    · cases hs
end
end Go.Eng
end
section
/- The engine, part L: code; calls; contracts. -/
namespace Go.Eng
def Post (E : Env) (Q : Exit → ST → Prop) : Exit → Act → World → Prop := fun e a w => ∃ st, Sat E st a w ∧ Q e st
section
variable {P : Program} {b : Frame} {a : Act} {k : List Item} {cs : List Frame} {w : World}
theorem stepR_scope {c : Code} : step P (lone (b.atR a (.code (.scope c) :: k)) cs w) = .next (lone (b.atR a (.code c :: .inScope c :: k)) cs w) := step_lone_go (by simp [Go.stepG, Go.stepG.exec, Frame.atR])
theorem stepR_inScope {c : Code} : step P (lone (b.atR a (.inScope c :: k)) cs w) = .next (lone (b.atR a k) cs w) := step_lone_go (by simp [Go.stepG, Go.stepG.exec, Frame.atR])
theorem wpIn_scope_straight {F : Fence} {n : Nat} {Q : Exit → Act → World → Prop} {c : Code} (h : c.wpIn F n P (Exit.noGoto Q) a w) : (Code.scope c).wpIn F n P Q a w := by
  intro b k cs hro hb hr
  have h0 : (lone (b.atR a (.code (.scope c) :: k)) cs w).fenced P F := fenced_calm hb hr rfl
  obtain ⟨e, a₁, w₁, hq, harr⟩ := h b (.inScope c :: k) cs hro hb hr
  cases e with
  | normal => exact ⟨.normal, a₁, w₁, hq, .head h0 stepR_scope (StepsIn.trans harr (.one (fenced_calm hb hr rfl) stepR_inScope))⟩
  | exit id =>
    have hx : exitTo id (.inScope c :: k) = exitTo id k := by simp [exitTo]
    exact ⟨.exit id, a₁, w₁, hq, fun k' hk => .head h0 stepR_scope (harr.1 k' (by rw [hx]; exact hk)),
      fun hr' hk => let ⟨k₁, h1, h2⟩ := harr.2 hr' (by rw [hx]; exact hk); ⟨k₁, h1, .head h0 stepR_scope h2⟩⟩
  | goto l => exact hq.elim
  | ret => exact ⟨_, a₁, w₁, hq, .of_steps (.one h0 stepR_scope) harr⟩
  | panic ch => exact ⟨_, a₁, w₁, hq, .of_steps (.one h0 stepR_scope) harr⟩
  | outgrown => exact ⟨_, a₁, w₁, hq, .of_steps (.one h0 stepR_scope) harr⟩
end
def XC (E : Env) (c : Code) (Q : Exit → ST → Prop) (st : ST) : Prop := ∀ a w, Sat E st a w → c.wpIn (FW E.rd) 0 E.P (Post E Q) a w
/-- What is still to be walked. -/
inductive It where
  | code (c : Code)
  | blk (id : Nat)
  | inv (J : ST → Prop)
  | scp
def XQ (E : Env) : List It → (Exit → ST → Prop) → Exit → ST → Prop
  | [], Q, e, st => Q e st
  | .code c :: k, Q, e, st => match e with
    | .normal => XC E c (XQ E k Q) st
    | e => XQ E k Q e st
  | .blk id :: k, Q, e, st => match e with
    | .exit id' => if id' = id then XQ E k Q .normal st else XQ E k Q (.exit id') st
    | e => XQ E k Q e st
  | .inv J :: k, Q, e, st => match e with
    | .normal => J st
    | e => XQ E k Q e st
  | .scp :: k, Q, e, st => match e with
    | .goto _ => False
    | e => XQ E k Q e st
def XK (E : Env) (k : List It) (Q : Exit → ST → Prop) (st : ST) : Prop := XQ E k Q .normal st
section
variable {E : Env} {Q : Exit → ST → Prop} {st : ST} {k : List It} {T : TE}
theorem XC.mono {c : Code} {Q' : Exit → ST → Prop} (h : XC E c Q st) (hq : ∀ e st, Q e st → Q' e st) : XC E c Q' st :=
  fun a w hs => wpIn_mono (h a w hs) fun _ _ _ ⟨st, h1, h2⟩ => ⟨st, h1, hq _ _ h2⟩
theorem XK.seq {a b : Code} (h : XK E (.code a :: .code b :: k) Q st) : XK E (.code (.seq a b) :: k) Q st := by
  intro ac w hs
  refine wpIn_seq (wpIn_mono (h ac w hs) ?_)
  rintro e a' w' ⟨st', h1, h2⟩
  cases e with
  | normal => exact h2 a' w' h1
  | _ => exact ⟨st', h1, h2⟩
theorem XK.skip (h : XK E k Q st) : XK E (.code .skip :: k) Q st := fun _ _ hs => wpIn_skip ⟨st, hs, h⟩
theorem XK.block {id : Nat} {c : Code} (h : XK E (.code c :: .blk id :: k) Q st) : XK E (.code (.block id c) :: k) Q st := by
  intro ac w hs
  refine wpIn_block (wpIn_mono (h ac w hs) ?_)
  rintro e a' w' ⟨st', h1, h2⟩
  cases e with
  | exit id' =>
    simp only [Exit.inBlock]
    simp only [XQ] at h2
    split
    · rename_i hid
      rw [if_pos hid] at h2
      exact ⟨st', h1, h2⟩
    · rename_i hid
      rw [if_neg hid] at h2
      exact ⟨st', h1, h2⟩
  | _ => exact ⟨st', h1, h2⟩
theorem XK.scope {c : Code} (h : XK E (.code c :: .scp :: k) Q st) : XK E (.code (.scope c) :: k) Q st := by
  intro ac w hs
  refine wpIn_scope_straight (wpIn_mono (h ac w hs) ?_)
  rintro e a' w' ⟨st', h1, h2⟩
  cases e with
  | goto l => exact h2.elim
  | normal => exact ⟨st', h1, h2⟩
  | exit id => exact ⟨st', h1, h2⟩
  | ret => exact ⟨st', h1, h2⟩
  | panic ch => exact ⟨st', h1, h2⟩
  | outgrown => exact ⟨st', h1, h2⟩
theorem XK.popS (h : XK E k Q st) : XK E (.scp :: k) Q st := h
theorem XK.label {l : Nat} (h : XK E k Q st) : XK E (.code (.label l) :: k) Q st := fun _ _ hs => wpIn_label ⟨st, hs, h⟩
theorem XK.pop {id : Nat} (h : XK E k Q st) : XK E (.blk id :: k) Q st := h
theorem XK.inv {J : ST → Prop} (h : J st) : XK E (.inv J :: k) Q st := h
def unw (id : Nat) : List It → Option (List It)
  | [] => none
  | .code _ :: k => unw id k
  | .inv _ :: k => unw id k
  | .scp :: k => unw id k
  | .blk id' :: k => bif Nat.beq id' id then some k else unw id k
theorem unw_ok {id : Nat} : ∀ {k k' : List It}, unw id k = some k' → XK E k' Q st → XQ E k Q (.exit id) st
  | [], k', h, _ => by cases h
  | .code _ :: k, k', h, hk => unw_ok (k := k) h hk
  | .inv _ :: k, k', h, hk => unw_ok (k := k) h hk
  | .scp :: k, k', h, hk => unw_ok (k := k) h hk
  | .blk id' :: k, k', h, hk => by
    simp only [unw] at h
    cases hb : Nat.beq id' id with
    | true =>
      have := Nat.eq_of_beq_eq_true hb
      subst this
      rw [hb, cond_true] at h
      injection h with h
      subst h
      simp only [XQ, if_true]
      exact hk
    | false =>
      rw [hb, cond_false] at h
      have hne : ¬ id = id' := fun e => by subst e; simp at hb
      simpa [XQ, hne] using unw_ok (k := k) h hk
theorem XK.exit {id : Nat} {k' : List It} (hu : unw id k = some k') (h : XK E k' Q st) : XK E (.code (.exit id) :: k) Q st :=
  fun _ _ hs => wpIn_exit ⟨st, hs, unw_ok hu h⟩
/-- Is there something to be taken off? -/
def nrmB : List It → Bool
  | .code c :: _ => match c with
    | .seq _ _ => true
    | .skip => true
    | .block _ _ => true
    | .scope _ => true
    | .label _ => true
    | .exit _ => true
    | _ => false
  | .blk _ :: _ => true
  | .scp :: _ => true
  | _ => false
/-- On to the next region, condition, loop or return. -/
def nrm : Nat → List It → Option (List It)
  | 0, _ => none
  | n + 1, .code c :: k => match c with
    | .seq a b => nrm n (.code a :: .code b :: k)
    | .skip => nrm n k
    | .block id c => nrm n (.code c :: .blk id :: k)
    | .scope c => nrm n (.code c :: .scp :: k)
    | .label _ => nrm n k
    | .exit id => match unw id k with
      | some k' => nrm n k'
      | none => none
    | c => some (.code c :: k)
  | n + 1, .blk _ :: k => nrm n k
  | n + 1, .scp :: k => nrm n k
  | _ + 1, k => some k
theorem nrm_ok : ∀ {n : Nat} {k k' : List It}, nrm n k = some k' → XK E k' Q st → XK E k Q st
  | 0, k, k', h, _ => by cases h
  | n + 1, [], k', h, hx => by simp only [nrm, Option.some.injEq] at h; subst h; exact hx
  | n + 1, .inv J :: k, k', h, hx => by simp only [nrm, Option.some.injEq] at h; subst h; exact hx
  | n + 1, .blk id :: k, k', h, hx => XK.pop (nrm_ok (n := n) (by simpa only [nrm] using h) hx)
  | n + 1, .scp :: k, k', h, hx => XK.popS (nrm_ok (n := n) (by simpa only [nrm] using h) hx)
  | n + 1, .code c :: k, k', h, hx => by
    simp only [nrm] at h
    split at h
    · exact XK.seq (nrm_ok h hx)
    · exact XK.skip (nrm_ok h hx)
    · exact XK.block (nrm_ok h hx)
    · exact XK.scope (nrm_ok h hx)
    · exact XK.label (nrm_ok h hx)
    · split at h
      · rename_i k2 hu
        exact XK.exit hu (nrm_ok h hx)
      · cases h
    · simp only [Option.some.injEq] at h; subst h; exact hx
theorem XK.norm {k' : List It} (hb : nrmB k = true) (h : nrm 200 k = some k') (hx : XK E k' Q st) : XK E k Q st := nrm_ok h hx
theorem XQ.ret : ∀ {k : List It}, Q .ret st → XQ E k Q .ret st
  | [], h => h
  | .code _ :: k, h => XQ.ret (k := k) h
  | .inv _ :: k, h => XQ.ret (k := k) h
  | .scp :: k, h => XQ.ret (k := k) h
  | .blk _ :: k, h => XQ.ret (k := k) h
theorem XK.ret (h : Q .ret st) : XK E (.code .ret :: k) Q st := fun _ _ hs => wpIn_ret ⟨st, hs, XQ.ret h⟩
theorem XK.nil (h : Q .normal st) : XK E [] Q st := h
theorem XK.cond {c : Operand} {x y : Code} {b : Bool} (hc : st.ev c = .c (.bool b)) (ht : b = true → XK E (.code x :: k) Q st) (hf : b = false → XK E (.code y :: k) Q st) : XK E (.code (.cond c x y) :: k) Q st := by
  intro a w hs
  obtain ⟨ρ, h⟩ := hs
  have hv := h.ev c
  rw [hc] at hv
  exact wpIn_cond_split hv.c_inv (fun hb => ht hb a w ⟨ρ, h⟩) (fun hb => hf hb a w ⟨ρ, h⟩)
theorem XK.cond_t {c : Operand} {x y : Code} (hc : st.ev c = .c (.bool true)) (h : XK E (.code x :: k) Q st) : XK E (.code (.cond c x y) :: k) Q st := XK.cond hc (fun _ => h) (fun e => by cases e)
theorem XK.cond_f {c : Operand} {x y : Code} (hc : st.ev c = .c (.bool false)) (h : XK E (.code y :: k) Q st) : XK E (.code (.cond c x y) :: k) Q st := XK.cond hc (fun e => by cases e) (fun _ => h)
/-- What follows from a state. -/
def Weak (E : Env) (st st' : ST) : Prop := ∀ a w, Sat E st a w → Sat E st' a w
theorem Weak.refl (E : Env) (st : ST) : Weak E st st := fun _ _ h => h
theorem Weak.trans {a b c : ST} (h : Weak E a b) (h' : Weak E b c) : Weak E a c := fun _ _ hs => h' _ _ (h _ _ hs)
theorem XQ.weak {st' : ST} (hw : Weak E st st') : ∀ {c : Code}, XK E (.code c :: k) Q st' → XK E (.code c :: k) Q st := fun h a w hs => h a w (hw a w hs)
theorem XK.loop {ι : Type} (I : ι → ST) (Inv : ι → Prop) (μ : ι → Nat) {body : Code} (i0 : ι) (hi : Inv i0) (h0 : Weak E st (I i0))
    (round : ∀ i, Inv i → XK E (.code body :: .inv (fun st' => ∃ j, Inv j ∧ Weak E st' (I j) ∧ μ j < μ i) :: k) Q (I i)) : XK E (.code (.loop body) :: k) Q st := by
  intro a w hs b kk cs hro hb hr
  have key : ∀ n i a w, μ i = n → Inv i → Sat E (I i) a w →
      ∃ e a' w', Post E (XQ E k Q) e a' w' ∧ ArrivesIn (Machine.fenced E.P (FW E.rd)) E.P (lone (b.atR a (.code body :: .inLoop body :: kk)) cs w) b kk cs e a' w' := by
    intro n
    induction n using Nat.strongRecOn with
    | _ n ih =>
      intro i a w hn hI hsat
      obtain ⟨e, a₁, w₁, ⟨st', hs', hq⟩, harr⟩ := round i hI a w hsat b (.inLoop body :: kk) cs hro hb hr
      cases e with
      | normal =>
        obtain ⟨j, hj, hwk, hlt⟩ := hq
        obtain ⟨e₂, a₂, w₂, hq₂, harr₂⟩ := ih (μ j) (hn ▸ hlt) j a₁ w₁ rfl hj (hwk _ _ hs')
        exact ⟨e₂, a₂, w₂, hq₂, .of_steps (StepsIn.trans harr (.one (fenced_calm hb hr rfl) stepR_inLoop)) harr₂⟩
      | exit id => exact ⟨_, a₁, w₁, ⟨st', hs', hq⟩, .pass (x := .inLoop body) rfl (fun _ _ => .inl (by simp)) harr⟩
      | goto l => exact ⟨_, a₁, w₁, ⟨st', hs', hq⟩, .pass (x := .inLoop body) rfl (fun _ _ => .inl (by simp)) harr⟩
      | ret => exact ⟨_, a₁, w₁, ⟨st', hs', hq⟩, .pass (x := .inLoop body) rfl (fun _ _ => .inl (by simp)) harr⟩
      | panic ch => exact ⟨_, a₁, w₁, ⟨st', hs', hq⟩, .pass (x := .inLoop body) rfl (fun _ _ => .inl (by simp)) harr⟩
      | outgrown => exact ⟨_, a₁, w₁, ⟨st', hs', hq⟩, .pass (x := .inLoop body) rfl (fun _ _ => .inl (by simp)) harr⟩
  obtain ⟨e, a', w', hq, harr⟩ := key _ i0 a w rfl hi (h0 _ _ hs)
  exact ⟨e, a', w', hq, .of_steps (.one (fenced_calm hb hr rfl) stepR_loop) harr⟩
/-- A loop walked round by round, n rounds at most. -/
def XR (E : Env) (body : Code) (k : List It) (Q : Exit → ST → Prop) : Nat → ST → Prop
  | 0, _ => False
  | n + 1, st => XK E (.code body :: .inv (XR E body k Q n) :: k) Q st
theorem XK.rounds (n : Nat) {body : Code} (h : XR E body k Q n st) : XK E (.code (.loop body) :: k) Q st := by
  intro a w hs
  refine wpIn_loop_rounds n ?_
  induction n generalizing st a w with
  | zero => exact h.elim
  | succ n ih =>
    refine wpIn_mono (h a w hs) ?_
    rintro e a' w' ⟨st', h1, h2⟩
    cases e with
    | normal => exact ih h2 a' w' h1
    | _ => exact ⟨st', h1, h2⟩
theorem XR.step {n : Nat} {body : Code} (h : XK E (.code body :: .inv (XR E body k Q n) :: k) Q st) : XR E body k Q (n + 1) st := h
/- Regions. -/
def ST.bump (st : ST) : ST := { st with nx := st.nx + st.nt }
theorem Sat.bump {a : Act} {w : World} (h : Sat E st a w) : Sat E st.bump a w := by
  obtain ⟨ρ, h⟩ := h
  exact ⟨ρ, h.keep, h.tsz, h.dfr, h.fr, h.ob, h.no, h.dis, h.own, h.le⟩
def XL (E : Env) (ops : Array Oper) (Q : Exit → ST → Prop) (l : List Oper) (st : ST) : Prop := ∀ a w, Sat E st a w → wpListIn (FW E.rd) 0 E.P ops (Post E Q) l a w
theorem XL.nil {ops : Array Oper} (h : Q .normal st.bump) : XL E ops Q [] st := fun _ _ hs => wpListIn_nil ⟨_, hs.bump, h⟩
theorem XK.region {id : Nat} {ops : Array Oper} (h : XL E ops (XQ E k Q) ops.toList st) : XK E (.code (.region id ops false) :: k) Q st := fun a w hs => wpIn_region_list (h a w hs)
theorem XL.step {ops : Array Oper} {o : Oper} {rest : List Oper} {st' : ST} (hs : StepTo E ops o st st') (h : XL E ops Q rest st') : XL E ops Q (o :: rest) st := by
  intro a w hsat
  have h1 := hs a w hsat (Post E Q)
  refine wpListIn_step fun K hK => ?_
  split
  · rename_i hw
    rw [if_pos hw] at h1
    exact Oper.wpIn_mono (fun a' w' hs' => hK _ _ (h a' w' hs')) h1
  · rename_i hw
    rw [if_neg hw] at h1
    exact ⟨fun _ _ => trivial, hK _ _ (h _ _ h1)⟩
def frcO : Ob → Option Ob
  | .cells t cs => match frcL cs with
    | some cs' => some (.cells t cs')
    | none => none
  | .vec e sz s n f => some (.vec e sz s n f)
  | .mapo kk zv d f => some (.mapo kk zv d f)
  | .mapb kk zv d f => some (.mapb kk zv d f)
  | .lrec mk b cs => some (.lrec mk b cs)
theorem frcO_eq {a b : Ob} (h : frcO a = some b) : b = a := by
  cases a with
  | cells t cs =>
    simp only [frcO] at h
    cases hl : frcL cs with
    | none => simp [hl] at h
    | some l' => simp [hl] at h; rw [← h, frcL_eq hl]
  | vec => simp [frcO] at h; exact h.symm
  | mapo => simp [frcO] at h; exact h.symm
  | mapb => simp [frcO] at h; exact h.symm
  | lrec mk b cs => simp [frcO] at h; exact h.symm
/-- The same, with the object's name. -/
def frcKO (k : Nat) (o : Ob) : Option (Nat × Ob) := match frcO o with
  | some o' => (match k with
    | 0 => some (0, o')
    | k' + 1 => some (k' + 1, o'))
  | none => none
theorem frcKO_eq {k k' : Nat} {o o' : Ob} (h : frcKO k o = some (k', o')) : k' = k ∧ o' = o := by
  unfold frcKO at h
  split at h
  · rename_i o2 ho
    cases k <;> simp only [Option.some.injEq, Prod.mk.injEq] at h <;> exact ⟨h.1.symm, h.2 ▸ frcO_eq ho⟩
  · cases h
structure RunR where
  obl : List Prop
  fr : Nat → AV
  ob : Nat → Option Ob
  rest : List Oper
/-- As many operations as go by themselves: what they ask, the state behind them, what is left. -/
def runF (T : TE) (l : List Oper) (nx nt : Nat) (md : Nat → Bool) : List Prop → (Nat → AV) → (Nat → Option Ob) → List Oper → RunR
  | acc, fr, ob, [] => ⟨acc, fr, ob, []⟩
  | acc, fr, ob, o :: rest => match stepN T l fr ob nx nt md o with
    | some (obl, ⟨av, eo⟩) => match frc av, eo, o.dst with
      | some x, none, some d => (match obl with
        | [] => runF T l nx nt md acc (upd fr d x) ob rest
        | p :: ps => runF T l nx nt md (pushR (p :: ps) acc) (upd fr d x) ob rest)
      | some x, some (k, o'), some d => (match frcKO k o' with
        | some (k, o2) => (match obl with
          | [] => runF T l nx nt md acc (upd fr d x) (upd ob k (some o2)) rest
          | p :: ps => runF T l nx nt md (pushR (p :: ps) acc) (upd fr d x) (upd ob k (some o2)) rest)
        | none => ⟨acc, fr, ob, o :: rest⟩)
      | some _, some (k, o'), none => (match frcKO k o' with
        | some (k, o2) => (match obl with
          | [] => runF T l nx nt md acc fr (upd ob k (some o2)) rest
          | p :: ps => runF T l nx nt md (pushR (p :: ps) acc) fr (upd ob k (some o2)) rest)
        | none => ⟨acc, fr, ob, o :: rest⟩)
      | _, _, _ => ⟨acc, fr, ob, o :: rest⟩
    | none => ⟨acc, fr, ob, o :: rest⟩
theorem XL.run (hT : TOk E.P T) {ops : Array Oper} {nx nt : Nat} {md : Nat → Bool} (hd : ops.toList.all (dstOk ⟨st.fr, st.ob, nx, nt, md⟩) = true) : ∀ {l : List Oper} {acc : List Prop} {fr fr' : Nat → AV} {ob ob' : Nat → Option Ob} {obl : List Prop} {rest : List Oper}, (∀ o ∈ l, o ∈ ops.toList) → runF T ops.toList nx nt md acc fr ob l = ⟨obl, fr', ob', rest⟩ → (∀ p ∈ obl, p) →
    XL E ops Q rest ⟨fr', ob', nx, nt, md⟩ → XL E ops Q l ⟨fr, ob, nx, nt, md⟩ ∧ ∀ p ∈ acc, p
  | [], acc, fr, fr', ob, ob', obl, rest, _, hr, ho, h => by
    simp only [runF, RunR.mk.injEq] at hr
    obtain ⟨rfl, rfl, rfl, rfl⟩ := hr
    exact ⟨h, ho⟩
  | o :: l, acc, fr, fr', ob, ob', obl, rest, hmem, hr, ho, h => by
    have dk : ∀ o' ∈ ops.toList, dstOk ⟨fr, ob, nx, nt, md⟩ o' = true := fun o' ho' => List.all_eq_true.1 hd o' ho'
    have stop : (⟨acc, fr, ob, o :: l⟩ : RunR) = ⟨obl, fr', ob', rest⟩ → XL E ops Q (o :: l) ⟨fr, ob, nx, nt, md⟩ ∧ ∀ p ∈ acc, p := by
      intro hr
      simp only [RunR.mk.injEq] at hr
      obtain ⟨rfl, rfl, rfl, rfl⟩ := hr
      exact ⟨h, ho⟩
    have go : ∀ {ob1 : List Prop} {eff : Eff} {fr1 : Nat → AV} {obj1 : Nat → Option Ob}, stepF T ops.toList ⟨fr, ob, nx, nt, md⟩ o = some (ob1, eff) → (ST.app ⟨fr, ob, nx, nt, md⟩ o.dst eff) = ⟨fr1, obj1, nx, nt, md⟩ →
        (match ob1 with
          | [] => runF T ops.toList nx nt md acc fr1 obj1 l
          | p :: ps => runF T ops.toList nx nt md (pushR (p :: ps) acc) fr1 obj1 l) = ⟨obl, fr', ob', rest⟩ → XL E ops Q (o :: l) ⟨fr, ob, nx, nt, md⟩ ∧ ∀ p ∈ acc, p := by
      intro ob1 eff fr1 obj1 hs he hr
      have fin : XL E ops Q l ⟨fr1, obj1, nx, nt, md⟩ → (∀ p ∈ ob1, p) → XL E ops Q (o :: l) ⟨fr, ob, nx, nt, md⟩ := fun hx hp =>
        XL.step (stepF_ok hT hs hp (dk o (hmem o (by simp))) (fun j pol o' d _ hj hdst => dstOk_lt (dk o' (Array.mem_toList_iff.2 (Array.mem_of_getElem? hj))) d hdst)) (he ▸ hx)
      cases ob1 with
      | nil =>
        obtain ⟨h1, h2⟩ := XL.run hT hd (fun o' ho' => hmem o' (by simp [ho'])) hr ho h
        exact ⟨fin h1 (fun p hp => by cases hp), h2⟩
      | cons q qs =>
        obtain ⟨h1, h2⟩ := XL.run hT hd (fun o' ho' => hmem o' (by simp [ho'])) hr ho h
        exact ⟨fin h1 (fun p hp => h2 p (mem_pushR.2 (.inl hp))), fun p hp => h2 p (mem_pushR.2 (.inr hp))⟩
    simp only [runF, stepN_eq] at hr
    split at hr
    · rename_i ob1 av eo hs
      split at hr
      · rename_i x d hx hd1
        have := frc_eq hx
        subst this
        exact go hs (by rw [hd1]; rfl) hr
      · rename_i x k o' d hx hd1
        have := frc_eq hx
        subst this
        split at hr
        · rename_i k2 o2 ho2
          obtain ⟨h1, h2⟩ := frcKO_eq ho2
          subst h1 h2
          exact go hs (by rw [hd1]; rfl) hr
        · exact stop hr
      · rename_i x k o' hx hd1
        split at hr
        · rename_i k2 o2 ho2
          obtain ⟨h1, h2⟩ := frcKO_eq ho2
          subst h1 h2
          exact go hs (by rw [hd1]; rfl) hr
        · exact stop hr
      · exact stop hr
    · exact stop hr
/-- A region that draws no order, without calls. -/
theorem XK.rgn (hT : TOk E.P T) {id : Nat} {ops : Array Oper} {fr fr' : Nat → AV} {ob ob' : Nat → Option Ob} {nx nt : Nat} {md : Nat → Bool} {obl obl' : List Prop} (hd : ops.toList.all (dstOk ⟨fun _ => .junk, fun _ => none, nx, nt, md⟩) = true)
    (hr : runF T ops.toList nx nt md [] fr ob ops.toList = ⟨obl, fr', ob', []⟩) (hf : frcR obl [] = some obl') (ho : AllP obl') (h : XK E k Q ⟨fr', ob', nx + nt, nt, md⟩) :
    XK E (.code (.region id ops false) :: k) Q ⟨fr, ob, nx, nt, md⟩ :=
  XK.region (XL.run (st := ⟨fun _ => .junk, fun _ => none, nx, nt, md⟩) hT hd (fun _ h => h) hr (AllP.memR hf ho) (XL.nil h)).1
/-- The same, up to an operation that does not go by itself (a call). -/
theorem XL.go (hT : TOk E.P T) {ops : Array Oper} {l rest : List Oper} {fr fr' : Nat → AV} {ob ob' : Nat → Option Ob} {nx nt : Nat} {md : Nat → Bool} {obl obl' : List Prop} (hd : ops.toList.all (dstOk ⟨fun _ => .junk, fun _ => none, nx, nt, md⟩) = true)
    (hm : ops.toList.drop (ops.toList.length - l.length) = l) (hr : runF T ops.toList nx nt md [] fr ob l = ⟨obl, fr', ob', rest⟩) (hf : frcR obl [] = some obl') (ho : AllP obl') (h : XL E ops Q rest ⟨fr', ob', nx, nt, md⟩) : XL E ops Q l ⟨fr, ob, nx, nt, md⟩ :=
  (XL.run (st := ⟨fun _ => .junk, fun _ => none, nx, nt, md⟩) hT hd (fun _ h => List.mem_of_mem_drop (hm ▸ h)) hr (AllP.memR hf ho) h).1
/- Contracts. -/
def FnOk (P : Program) (f : FuncId) : Prop := ∃ fn, P.funcs[f]? = some fn ∧ fn.body.isSome = true ∧ (fn.name == "runtime.NumGoroutine") = false
/-- Called with such arguments, the function hands back such a value, and what was there stays as it was. -/
def Does (P : Program) (f : FuncId) (args : List AV) (res : AV) : Prop :=
  FnOk P f ∧ ∀ (w : World) (G : Nat → Prop) (vs : Array Value), vs.size = args.length → (∀ b, G b → b < w.heap.size) → (∀ i x, args[i]? = some x → R w G Rho.none x (vs.getD i undef)) →
    Calls P f vs w fun e w' => ∃ v, e = .returned v ∧ Keep (fun _ => False) w w' ∧ R w' (fun b => G b ∨ (w.heap.size ≤ b ∧ b < w'.heap.size)) Rho.none res v
mutual
/-- What a name of the call's own object says to whoever only looks. -/
def AV.lend (ob : Nat → Option Ob) : AV → AV
  | .agg l => .agg (AV.lendL ob l)
  | .tup l => .tup (AV.lendL ob l)
  | .fn f l l' => .fn f (AV.lendL ob l) (AV.lendL ob l')
  | .vec k s => match ob k with
    | some (.vec _ sz s' n f) => bif Nat.beq s s' then .rs sz n f else .junk
    | _ => .junk
  | .ptr k off => match ob k with
    | some (.cells _ cs) => bif AV.ksL (fun _ => false) cs then .rptr (cs.drop off) else .junk
    | _ => .junk
  | .vptr _ _ _ _ _ => .junk
  | .mp _ => .junk
  | .gd _ _ => .junk
  | .junk => .junk
  | .c v => .c v
  | .rptr l => .rptr l
  | .rs sz n f => .rs sz n f
def AV.lendL (ob : Nat → Option Ob) : List AV → List AV
  | [] => []
  | a :: l => AV.lend ob a :: AV.lendL ob l
end
theorem AV.lendL_get {ob : Nat → Option Ob} : ∀ {l : List AV} {i : Nat} {x : AV}, (AV.lendL ob l)[i]? = some x → ∃ y, l[i]? = some y ∧ x = y.lend ob
  | [], i, x, h => by simp [AV.lendL] at h
  | a :: l, 0, x, h => by simp [AV.lendL] at h; exact ⟨a, rfl, h.symm⟩
  | a :: l, i + 1, x, h => by simp [AV.lendL] at h; simpa using AV.lendL_get h
theorem AV.lendL_length {ob : Nat → Option Ob} : ∀ {l : List AV}, (AV.lendL ob l).length = l.length
  | [] => rfl
  | a :: l => by simp [AV.lendL, AV.lendL_length (l := l)]
theorem SatR.lend {a : Act} {w : World} {ρ : Rho} (h : SatR E st a w ρ) {x : AV} {v : Value} (hx : R w (E.good w ρ) ρ x v) : R w (fun b => b < w.heap.size) Rho.none (x.lend st.ob) v := by
  have hG : ∀ b, E.good w ρ b → b < w.heap.size ∧ w.heap[b]? = w.heap[b]? := fun b hb => ⟨hb.2.1, rfl⟩
  have key : ∀ {ρ' : Rho} {x : AV} {v : Value}, R w (E.good w ρ) ρ' x v → ρ' = ρ → R w (fun b => b < w.heap.size) Rho.none (x.lend st.ob) v := by
    intro ρ' x v hx
    induction hx with
    | junk => exact fun _ => .junk
    | c => exact fun _ => .c
    | agg hs _ ih =>
      intro e
      refine .agg (by rw [AV.lendL_length]; exact hs) fun i x hi => ?_
      obtain ⟨y, hy, rfl⟩ := AV.lendL_get hi
      exact ih i y hy e
    | tup hs _ ih =>
      intro e
      refine .tup (by rw [AV.lendL_length]; exact hs) fun i x hi => ?_
      obtain ⟨y, hy, rfl⟩ := AV.lendL_get hi
      exact ih i y hy e
    | @ptr ρ' k off g hk =>
      intro e
      subst e
      simp only [AV.lend]
      split
      · rename_i t cs ho
        cases hb : AV.ksL (fun _ => false) cs with
        | false => exact .junk
        | true =>
          rw [cond_true]
          have hc := (h.objCells ho hk).drop off
          rw [Addr.add_lit, Nat.zero_add] at hc
          refine R.rptr_mk ?_ fun i y hy => ?_
          · exact h.lt hk rfl
          · obtain ⟨u, hu, hr⟩ := hc i y hy
            have hks : y.ks (fun _ => false) = true := by
              rw [List.getElem?_drop] at hy
              exact AV.ksL_at hb hy
            exact ⟨u, hu, (hr.tr hG _ (Le.refl _)).free hks⟩
      · exact .junk
    | mp => exact fun _ => .junk
    | vptr => exact fun _ => .junk
    | vptrOld => exact fun _ => .junk
    | @vec ρ' k s hv hk =>
      intro e
      subst e
      simp only [AV.lend]
      split
      · rename_i e sz s' n f ho
        cases hb : Nat.beq s s' with
        | false => exact .junk
        | true =>
          rw [cond_true]
          obtain ⟨A, cap, rfl, hm, hf, hc⟩ := src_ok (sz := sz) (m := n) (f := f) h (x := .vec k s) (by simp [srcF, ho, hb]) (.vec hk)
          obtain ⟨_, _, _, _, xs, ho', hk', hown, _, _⟩ := h.live_vec (k := k) (s := s) (by simp [live, ho, hb]) (.vec hk)
          have hcap : n ≤ cap ∧ cap ≤ maxLen := by
            rw [ho] at ho'
            injection ho' with ho'
            injection ho' with _ _ _ q4 _
            subst q4
            rcases hown.2 with ⟨h1, h2⟩ | ⟨g, cap', cur, h1, _, _, h3, h4, _⟩
            · injection h1 with _ q q'
              subst q'
              exact ⟨by omega, Nat.zero_le _⟩
            · injection h1 with _ _ q'
              subst q'
              exact ⟨h3, h4⟩
          refine R.rs_mk hcap.1 hcap.2 hf fun h0 => ?_
          obtain ⟨ad, rfl, hcc⟩ := hc h0
          refine ⟨ad, rfl, ?_, fun i hi j y hy => ?_⟩
          · exact h.lt hk' rfl
          · obtain ⟨u, hu, hr⟩ := hcc i hi j y hy
            exact ⟨u, hu, hr.tr hG _ (Le.refl _)⟩
      · exact .junk
    | vecOld hk hs =>
      intro e
      subst e
      simp only [AV.lend]
      split
      · rename_i e sz s' n f ho
        cases hb : Nat.beq _ s' with
        | false => exact .junk
        | true =>
          have := Nat.eq_of_beq_eq_true hb
          subst this
          obtain ⟨hv, _, hk', _⟩ := h.ob _ _ ho
          rw [hk] at hk'
          injection hk' with hk'
          injection hk' with hk' _
          omega
      · exact .junk
    | rptr val hg hc hx _ => exact fun _ => (R.rptr val hg hc hx).tr hG _ (Le.none _)
    | rs val hn hm hc hl hx _ => exact fun _ => (R.rs val hn hm hc hl hx).tr hG _ (Le.none _)
    | fn hs _ hs' _ ih ih' =>
      intro e
      refine .fn (by rw [AV.lendL_length]; exact hs) (fun i x hi => ?_) (by rw [AV.lendL_length]; exact hs') (fun i x hi => ?_)
      · obtain ⟨y, hy, rfl⟩ := AV.lendL_get hi
        exact ih i y hy e
      · obtain ⟨y, hy, rfl⟩ := AV.lendL_get hi
        exact ih' i y hy e
    | gd => exact fun _ => .junk
  exact key hx rfl
end
end Go.Eng
end
section
/- The engine, part M: calls; results; contracts made; states forgotten. -/
namespace Go.Eng
def callF (st : ST) (op : Op) : Option (Nat × List AV) :=
  match op with
  | .call c => match c.callee with
    | .value f => match strip (st.ev f) with
      | .fn (.func fid) first caps => some (fid, first ++ c.args.toList.map (fun x => strip (st.ev x)) ++ caps)
      | _ => none
    | _ => none
  | _ => none
theorem getD_append_at {xs ys : Array Value} {l l' : List AV} {w : World} {G : Nat → Prop} {ρ : Rho} (h1 : xs.size = l.length) (h2 : ys.size = l'.length) (hx : ∀ i x, l[i]? = some x → R w G ρ x (xs.getD i undef)) (hy : ∀ i x, l'[i]? = some x → R w G ρ x (ys.getD i undef)) :
    (xs ++ ys).size = (l ++ l').length ∧ ∀ i x, (l ++ l')[i]? = some x → R w G ρ x ((xs ++ ys).getD i undef) := by
  refine ⟨by simp [h1, h2], fun i x hi => ?_⟩
  by_cases hlt : i < l.length
  · rw [List.getElem?_append_left hlt] at hi
    have := hx i x hi
    have hlt' : i < xs.size := by omega
    simpa [Array.getElem?_append_left hlt'] using this
  · rw [List.getElem?_append_right (by omega)] at hi
    have := hy _ x hi
    have hge : xs.size ≤ i := by omega
    rw [← h1] at this
    simpa [Array.getElem?_append_right hge] using this
section
variable {E : Env} {st : ST} {a : Act} {w : World} {ρ : Rho} {T : TE}
theorem call_run (h : SatR E st a w ρ) {o : Oper} {f : Nat} {args : List AV} (hc : callF st o.op = some (f, args)) {gc : Option Bool} (hgc : ∀ g, gc = some g → g = true) (ho : ∀ p ∈ o.op.operands.toList.flatMap (fun x => oblG gc (st.ev x)), p)
    (hf : FnOk E.P f) : ∃ vs : Array Value, (execOp a.eval o).run E.P w = .ok (.enter f vs) w ∧ vs.size = args.length ∧ ∀ i x, args[i]? = some x → R w (E.good w ρ) ρ x (vs.getD i undef) := by
  obtain ⟨dst, op, type, pos, after, guard⟩ := o
  simp only at hc ho
  unfold callF at hc
  split at hc
  · rename_i c
    obtain ⟨callee, cargs, tys⟩ := c
    simp only at hc
    split at hc
    · rename_i fo
      split at hc
      · rename_i fid first caps hfn
        simp only [Option.some.injEq, Prod.mk.injEq] at hc
        obtain ⟨rfl, rfl⟩ := hc
        have hst : ∀ x ∈ (Op.call { callee := .value fo, args := cargs, argTypes := tys }).operands, R w (E.good w ρ) ρ (strip (st.ev x)) (a.eval x) := fun x hx =>
          strip_ok hgc (fun p hp => ho p (List.mem_flatMap.2 ⟨x, by simpa using hx, hp⟩)) (h.ev x)
        have hfv := hst fo (by simp [Op.operands, Call.operands])
        rw [hfn] at hfv
        generalize hev : a.eval fo = fv at hfv
        cases hfv with
        | @fn _ _ _ _ fs cs h1 h2 h3 h4 =>
          obtain ⟨fn, g1, g2, g3⟩ := hf
          have hargs : (cargs.map a.eval).size = (cargs.toList.map (fun x => strip (st.ev x))).length ∧ ∀ i x, (cargs.toList.map (fun x => strip (st.ev x)))[i]? = some x → R w (E.good w ρ) ρ x ((cargs.map a.eval).getD i undef) := by
            refine ⟨by simp, fun i x hx => ?_⟩
            simp only [List.getElem?_map, Option.map_eq_some_iff] at hx
            obtain ⟨u, hu, rfl⟩ := hx
            rw [getD_map cargs i u (by simpa using hu)]
            exact hst u (by simp [Op.operands, Call.operands]; exact .inr (by simpa using List.mem_of_getElem? hu))
          obtain ⟨q1, q2⟩ := getD_append_at h1 hargs.1 h2 hargs.2
          obtain ⟨q3, q4⟩ := getD_append_at q1 h3 q2 h4
          refine ⟨fs ++ cargs.map a.eval ++ cs, ?_, q3, q4⟩
          have hbn : fn.body ≠ none := fun e => by rw [e] at g2; cases g2
          have hnm : fn.name ≠ "runtime.NumGoroutine" := by simpa using g3
          simp [execOp, resolve, hev, Deferred.ofValue, invoke, callFunc, g1, hnm, hbn]
      · cases hc
    · cases hc
  · cases hc
/-- The call's own condition: what goes in is lent, and what comes out is no memory; or nothing of the call's own goes in. -/
def CallOk (st : ST) (args args' : List AV) (res : AV) : Prop :=
  (AV.lendL st.ob args = args' ∧ res.flat = true) ∨ (args = args' ∧ AV.ksL (fun _ => false) args = true)
theorem call_wp (h : SatR E st a w ρ) {o : Oper} {f : Nat} {args args' : List AV} {res : AV} (hc : callF st o.op = some (f, args)) {gc : Option Bool} (hgc : ∀ g, gc = some g → g = true) (ho : ∀ p ∈ o.op.operands.toList.flatMap (fun x => oblG gc (st.ev x)), p)
    (hP : Does E.P f args' res) (hok : CallOk st args args' res) {next : Act → World → Prop} {Q : Exit → Act → World → Prop}
    (hn : ∀ v w', SatR E st a w' ρ → R w' (E.good w' ρ) ρ res v → next (a.put o.dst v) w') : o.wpIn (FW E.rd) 0 E.P a w next Q := by
  obtain ⟨vs, h1, h2, h3⟩ := call_run h hc hgc ho hP.1
  refine wpIn_run h1 (fun _ e => by cases e) ⟨(fun e => by cases e), Calls.fw ?_ _ _⟩
  rcases hok with ⟨rfl, hfl⟩ | ⟨rfl, hks⟩
  · refine (hP.2 w (fun b => b < w.heap.size) vs (by rw [AV.lendL_length]; exact h2) (fun b hb => hb) (fun i x hx => ?_)).mono ?_
    · obtain ⟨y, hy, rfl⟩ := AV.lendL_get hx
      exact h.lend (h3 i y hy)
    · rintro e w' ⟨v, rfl, hk, hr⟩
      exact hn v w' (h.called hk) (hr.of_flat ρ hfl)
  · refine (hP.2 w (E.good w ρ) vs h2 (fun b hb => hb.2.1) (fun i x hx => (h3 i x hx).free (AV.ksL_at hks hx))).mono ?_
    rintro e w' ⟨v, rfl, hk, hr⟩
    have hc' := h.called hk
    refine hn v w' hc' (hr.tr (fun b hb => ⟨?_, rfl⟩) _ (Le.none _))
    rcases hb with ⟨q1, q2, q3⟩ | ⟨q1, q2⟩
    · exact ⟨q1, Nat.lt_of_lt_of_le q2 hk.size, q3⟩
    · exact ⟨.inr (.inl (Nat.le_trans h.keep.size q1)), q2, fun k x hx hb => absurd (h.lt hx hb) (by omega)⟩
theorem StepTo.call {ops : Array Oper} {o : Oper} {f : Nat} {args args' : List AV} {res : AV} (hc : callF st o.op = some (f, args)) (hg : o.guard = none) (hd : dstOk st o = true) (ho : AllP (o.op.operands.toList.flatMap (fun x => oblG none (st.ev x))))
    (hP : Does E.P f args' res) (hok : CallOk st args args' res) : StepTo E ops o st (st.app o.dst ⟨res, none⟩) := by
  intro a w ⟨ρ, h⟩ Q
  rw [if_pos (by simp [Region.wanted, hg])]
  exact call_wp h hc (fun g e => by cases e) (AllP.mem ho) hP hok fun v w' h' hr => ⟨ρ, SatR.put_app (eff := ⟨res, none⟩) (dst := o.dst) h' (dstOk_lt hd) hr⟩
theorem StepTo.callG {ops : Array Oper} {o : Oper} {j f : Nat} {pol g : Bool} {args args' : List AV} {res : AV} (hc : callF st o.op = some (f, args)) (hg : o.guard = some (j, pol)) (hgv : gval st ops.toList j pol = some g) (hd : dstOk st o = true)
    (hda : ops.toList.all (dstOk st) = true) (ho : AllP (o.op.operands.toList.flatMap (fun x => oblG (some g) (st.ev x)))) (hP : g = true → Does E.P f args' res) (hok : CallOk st args args' res) : StepTo E ops o st (st.app o.dst ⟨.gd g res, none⟩) := by
  intro a w ⟨ρ, h⟩ Q
  have hwv : Region.wanted o (yielded ops a.tmps) = g := by
    have := gval_ok h hgv (fun o' d h1 h2 => dstOk_lt (List.all_eq_true.1 hda o' (Array.mem_toList_iff.2 (Array.mem_of_getElem? h1))) d h2)
    simp only [Region.wanted, hg, this]
  cases hgb : g with
  | false =>
    subst hgb
    rw [if_neg (by rw [hwv]; simp)]
    exact ⟨ρ, SatR.put_app (eff := ⟨.gd false res, none⟩) (dst := o.dst) h (dstOk_lt hd) (.gd (fun e => by cases e) fun _ => rfl)⟩
  | true =>
    subst hgb
    rw [if_pos hwv]
    exact call_wp h hc (fun g e => by injection e with e; exact e.symm) (AllP.mem ho) (hP rfl) hok fun v w' h' hr => ⟨ρ, SatR.put_app (eff := ⟨.gd true res, none⟩) (dst := o.dst) h' (dstOk_lt hd) (.gd (fun _ => hr) fun e => by cases e)⟩
theorem XL.call {Q : Exit → ST → Prop} {ops : Array Oper} {o : Oper} {rest : List Oper} {f : Nat} {args args' : List AV} {res : AV} (hc : callF st o.op = some (f, args)) (hg : o.guard = none) (hd : dstOk st o = true) (ho : AllP (o.op.operands.toList.flatMap (fun x => oblG none (st.ev x))))
    (hP : Does E.P f args' res) (hok : CallOk st args args' res) (h : XL E ops Q rest (st.app o.dst ⟨res, none⟩)) : XL E ops Q (o :: rest) st := XL.step (StepTo.call hc hg hd ho hP hok) h
theorem XL.callG {Q : Exit → ST → Prop} {ops : Array Oper} {o : Oper} {rest : List Oper} {j f : Nat} {pol g : Bool} {args args' : List AV} {res : AV} (hc : callF st o.op = some (f, args)) (hg : o.guard = some (j, pol)) (hgv : gval st ops.toList j pol = some g) (hd : dstOk st o = true)
    (hda : ops.toList.all (dstOk st) = true) (ho : AllP (o.op.operands.toList.flatMap (fun x => oblG (some g) (st.ev x)))) (hP : g = true → Does E.P f args' res) (hok : CallOk st args args' res) (h : XL E ops Q rest (st.app o.dst ⟨.gd g res, none⟩)) : XL E ops Q (o :: rest) st :=
  XL.step (StepTo.callG hc hg hgv hd hda ho hP hok) h
end
/-- What follows for a value: a row's elements may be written otherwise; a nil slice is a row of no elements. -/
def AvIs0 : AV → AV → Prop
  | .rs sz n f, .rs sz' n' f' => sz = sz' ∧ n = n' ∧ ∀ i, i < n → f' i = f i
  | .c v, .rs _ n _ => v = .slice none 0 0 ∧ n = 0
  | x, y => x = y
def AvIs0L : List AV → List AV → Prop
  | [], [] => True
  | [x], [y] => AvIs0 x y
  | x :: l, y :: l' => AvIs0 x y ∧ AvIs0L l l'
  | _, _ => False
/-- The same, part by part, for what a function hands back. -/
def AvIs : AV → AV → Prop
  | .tup l, .tup l' => AvIs0L l l'
  | x, y => AvIs0 x y
theorem AvIs0.refl (x : AV) : AvIs0 x x := by cases x <;> simp [AvIs0]
theorem AvIs0L.refl : ∀ (l : List AV), AvIs0L l l
  | [] => trivial
  | [x] => AvIs0.refl x
  | x :: y :: l => ⟨AvIs0.refl x, AvIs0L.refl (y :: l)⟩
theorem AvIs.refl (x : AV) : AvIs x x := by
  cases x
  case tup l => exact AvIs0L.refl l
  all_goals simp [AvIs, AvIs0]
theorem AvIs0.ok {w : World} {G : Nat → Prop} {ρ : Rho} {x y : AV} {v : Value} (h : AvIs0 x y) (hr : R w G ρ x v) : R w G ρ y v := by
  unfold AvIs0 at h
  split at h
  · obtain ⟨rfl, rfl, hf⟩ := h
    cases hr with
    | rs val hn hm hc hl h => exact .rs val hn hm hc (fun i hi => by rw [hf i hi]; exact hl i hi) fun i j x hi hx => h i j x hi (by rw [← hf i hi]; exact hx)
  · obtain ⟨rfl, rfl⟩ := h
    rw [hr.c_inv]
    exact .rs (fun _ _ => undef) (Nat.le_refl _) (Nat.zero_le _) (fun h => absurd h (by simp)) (fun i hi => absurd hi (by simp)) (fun i j x hi => absurd hi (by simp))
  · subst h; exact hr
theorem AvIs0.ks {x y : AV} {p : Nat → Bool} (h : AvIs0 x y) (hk : y.ks p = true) : x.ks p = true := by
  unfold AvIs0 at h
  split at h
  · rfl
  · rfl
  · subst h; exact hk
theorem AvIs0L.at_ : ∀ {l l' : List AV}, AvIs0L l l' → l.length = l'.length ∧ ∀ (i : Nat) (x y : AV), l[i]? = some x → l'[i]? = some y → AvIs0 x y
  | [], [], _ => ⟨rfl, fun i x y h => by simp at h⟩
  | [x], [y], h => ⟨rfl, fun i x' y' h1 h2 => by
    match i with
    | 0 => simp at h1 h2; subst h1 h2; exact h
    | i + 1 => simp at h1⟩
  | x :: x2 :: l, y :: y2 :: l', h => by
    obtain ⟨h1, h2⟩ := AvIs0L.at_ (l := x2 :: l) (l' := y2 :: l') h.2
    refine ⟨by simpa using h1, fun i x' y' g1 g2 => ?_⟩
    match i with
    | 0 => simp at g1 g2; subst g1 g2; exact h.1
    | i + 1 => exact h2 i x' y' (by simpa using g1) (by simpa using g2)
  | [x], y :: y2 :: l', h => False.elim h.2
  | x :: x2 :: l, [y], h => by
    have := h.2
    cases l <;> simp [AvIs0L] at this
theorem AvIs.ok {w : World} {G : Nat → Prop} {ρ : Rho} {x y : AV} {v : Value} (h : AvIs x y) (hr : R w G ρ x v) : R w G ρ y v := by
  unfold AvIs at h
  split at h
  · rename_i l l'
    obtain ⟨hl, hat⟩ := h.at_
    obtain ⟨cs, rfl, hs, hc⟩ := hr.tup_inv
    refine .tup (by omega) fun i b hb => ?_
    have hlt : i < l.length := by
      have := (List.getElem?_eq_some_iff.1 hb).1
      omega
    have hx := List.getElem?_eq_getElem hlt
    exact (hat i _ b hx hb).ok (hc i _ hx)
  · exact AvIs0.ok h hr
theorem ksL_of_at {p : Nat → Bool} : ∀ {l : List AV}, (∀ (i : Nat) (x : AV), l[i]? = some x → x.ks p = true) → AV.ksL p l = true
  | [], _ => rfl
  | a :: l, h => by
    simp only [AV.ksL, Bool.and_eq_true]
    exact ⟨h 0 a rfl, ksL_of_at fun i x hx => h (i + 1) x (by simpa using hx)⟩
theorem AvIs.ks {x y : AV} {p : Nat → Bool} (h : AvIs x y) (hk : y.ks p = true) : x.ks p = true := by
  unfold AvIs at h
  split at h
  · rename_i l l'
    obtain ⟨hl, hat⟩ := h.at_
    refine ksL_of_at (l := l) fun i x hx => ?_
    have hlt : i < l'.length := by
      have := (List.getElem?_eq_some_iff.1 hx).1
      omega
    have hy := List.getElem?_eq_getElem hlt
    exact (hat i x _ hx hy).ks (AV.ksL_at (by simpa [AV.ks] using hk) hy)
  · exact AvIs0.ks h hk
section
variable {E : Env} {st : ST} {a : Act} {w : World} {ρ : Rho} {T : TE}
/- Results. -/
def retF1 (T : TE) (st : ST) : ResultVar → Option AV
  | .tmp t => some (st.fr t)
  | .cell x t => match loadF T st.ob t (st.fr x) with
    | some (_, r) => some r
    | none => none
def retFs (T : TE) (st : ST) : List ResultVar → Option (List AV)
  | [] => some []
  | r :: l => match retF1 T st r, retFs T st l with
    | some x, some xs => some (x :: xs)
    | _, _ => none
def retF (T : TE) (st : ST) (l : List ResultVar) : Option AV := match retFs T st l with
  | some [x] => some x
  | some xs => some (.tup xs)
  | none => none
def resSem (tmps : Array Value) : ResultVar → Sem Value
  | .tmp t => pure (tmps.getD t undef)
  | .cell a t => do loadVar t (← asAddr (tmps.getD a undef))
theorem results_eq (fn : Func) (tmps : Array Value) : results fn tmps = (do let vs ← fn.results.mapM (resSem tmps); pure (if h : vs.size = 1 then vs[0] else .tuple vs)) := by
  unfold results resSem
  rfl
theorem retF1_ok (hT : TOk E.P T) (h : SatR E st a w ρ) {r : ResultVar} {x : AV} (hr : retF1 T st r = some x) : ∃ v, (resSem a.tmps r).run E.P w = .ok v w ∧ R w (E.good w ρ) ρ x v := by
  cases r with
  | tmp t =>
    simp only [retF1, Option.some.injEq] at hr
    subst hr
    exact ⟨_, rfl, h.fr t⟩
  | cell c t =>
    simp only [retF1] at hr
    split at hr
    · rename_i obl r' hl
      injection hr with hr
      subst hr
      obtain ⟨z, h1, h2⟩ := loadF_ok hT h hl (h.fr c)
      refine ⟨z, ?_, h2⟩
      have hp : ∃ ad, a.tmps.getD c undef = .pointer (some ad) := by
        cases hv : a.tmps.getD c undef with
        | pointer p =>
          cases p with
          | some ad => exact ⟨ad, rfl⟩
          | none => rw [hv] at h1; simp [Instr.loadAt, Instr.sureAddr] at h1
        | _ => rw [hv] at h1; simp [Instr.loadAt, Instr.sureAddr] at h1
      obtain ⟨ad, hp⟩ := hp
      rw [hp] at h1
      simp only [resSem, hp, asAddr]
      simpa [Instr.loadAt, Instr.sureAddr] using h1
    · cases hr
theorem retFs_ok (hT : TOk E.P T) (h : SatR E st a w ρ) : ∀ {l : List ResultVar} {xs : List AV}, retFs T st l = some xs → ∃ vs : List Value, (l.mapM (resSem a.tmps)).run E.P w = .ok vs w ∧ vs.length = xs.length ∧ ∀ (i : Nat) (x : AV), xs[i]? = some x → R w (E.good w ρ) ρ x (vs.getD i undef)
  | [], xs, hr => by
    simp only [retFs, Option.some.injEq] at hr
    subst hr
    exact ⟨[], rfl, rfl, fun i x hx => by simp at hx⟩
  | r :: l, xs, hr => by
    simp only [retFs] at hr
    split at hr
    · rename_i x xs' h1 h2
      injection hr with hr
      subst hr
      obtain ⟨v, g1, g2⟩ := retF1_ok hT h h1
      obtain ⟨vs, g3, g4, g5⟩ := retFs_ok hT h h2
      refine ⟨v :: vs, by simp [List.mapM_cons, g1, g3], by simp [g4], fun i y hy => ?_⟩
      cases i with
      | zero => simp at hy; subst hy; exact g2
      | succ i => simpa using g5 i y (by simpa using hy)
    · cases hr
theorem retF_ok (hT : TOk E.P T) (h : SatR E st a w ρ) {fn : Func} {x : AV} (hr : retF T st fn.results.toList = some x) : ∃ v, (results fn a.tmps).run E.P w = .ok v w ∧ R w (E.good w ρ) ρ x v := by
  unfold retF at hr
  rw [results_eq]
  have hm : ∀ {vs : List Value}, (fn.results.toList.mapM (resSem a.tmps)).run E.P w = .ok vs w → (fn.results.mapM (resSem a.tmps)).run E.P w = .ok vs.toArray w := by
    intro vs hvs
    rw [Array.mapM_eq_mapM_toList]
    simp [hvs]
  split at hr
  · rename_i y hy
    injection hr with hr
    subst hr
    obtain ⟨vs, g1, g2, g3⟩ := retFs_ok hT h hy
    match vs, g2 with
    | [v], _ => exact ⟨v, by rw [Sem.run_bind, hm g1]; rfl, g3 0 y rfl⟩
  · rename_i xs hne hy
    injection hr with hr
    subst hr
    obtain ⟨vs, g1, g2, g3⟩ := retFs_ok hT h hy
    have hl : vs.length ≠ 1 := fun e => by
      rw [g2] at e
      match xs, e with
      | [y], _ => exact hne y rfl
    refine ⟨.tuple vs.toArray, ?_, .tup (by simpa using g2) fun i x hx => by simpa using g3 i x hx⟩
    rw [Sem.run_bind, hm g1]
    simp [hl]
  · cases hr
/-- How a walk of a function's body ends. -/
def RetQ (T : TE) (rs : List ResultVar) (res : AV) : Exit → ST → Prop := fun e st => (e = .normal ∨ e = .ret) ∧ ∃ x, retF T st rs = some x ∧ x.ks (fun _ => false) = true ∧ AvIs x res
theorem RetQ.ret {rs : List ResultVar} {res x : AV} (h : retF T st rs = some x) (hk : x.ks (fun _ => false) = true) (he : x = res) : RetQ T rs res .ret st := ⟨.inr rfl, x, h, hk, he ▸ AvIs.refl x⟩
theorem RetQ.normal {rs : List ResultVar} {res x : AV} (h : retF T st rs = some x) (hk : x.ks (fun _ => false) = true) (he : x = res) : RetQ T rs res .normal st := ⟨.inl rfl, x, h, hk, he ▸ AvIs.refl x⟩
def argFr : List AV → Nat → AV
  | [], _ => .junk
  | x :: _, 0 => x
  | _ :: l, k + 1 => argFr l k
theorem argFr_eq : ∀ (args : List AV) (k : Nat), argFr args k = (args[k]?).getD .junk
  | [], k => by simp [argFr]
  | x :: l, 0 => by simp [argFr]
  | x :: l, k + 1 => by simp [argFr, argFr_eq l k]
theorem Does.mk {P : Program} {f : FuncId} {fn : Func} {c : Code} {args : List AV} {res : AV} {T : TE} (md : Nat → Bool) (hT : TOk P T) (hf : P.funcs[f]? = some fn) (hb : fn.body = some c) (hnm : (fn.name == "runtime.NumGoroutine") = false)
    {nt : Nat} {rs : List ResultVar} (hnt : fn.ntmps = nt) (hrs : fn.results.toList = rs) (hle : Nat.ble args.length nt = true)
    (h : ∀ E : Env, TOk E.P T → E.P = P → E.N = 0 → E.rd = none → XK E [.code c] (RetQ T rs res) ⟨argFr args, fun _ => none, 0, nt, md⟩) : Does P f args res := by
  subst hnt hrs
  refine ⟨⟨fn, hf, by rw [hb]; rfl, hnm⟩, fun w G vs hs hG hr => ?_⟩
  let E : Env := ⟨P, w, fun _ => False, G, 0, Rho.none, none⟩
  have hgood : ∀ b, G b → E.good w Rho.none b := fun b hb => ⟨.inl hb, hG b hb, (fun k x hx => by cases hx)⟩
  have hle' := Nat.le_of_ble_eq_true hle
  have hsz : (vs ++ Array.replicate (fn.ntmps - vs.size) undef).size = fn.ntmps := by simp; omega
  have h0 : SatR E ⟨argFr args, fun _ => none, 0, fn.ntmps, md⟩ { tmps := vs ++ Array.replicate (fn.ntmps - vs.size) undef, defers := [] } w Rho.none := by
    refine ⟨Keep.refl _ _, hsz, DfrOk.nil, fun k => ?_, (fun k o ho => by cases ho), fun k _ => rfl, (fun k k' x x' b hk => by cases hk), (fun k x b hk => by cases hk), (fun k hk => by cases hk)⟩
    by_cases hk : k < args.length
    · have hx := List.getElem?_eq_getElem hk
      have h1 := (hr k _ hx).tr (G' := E.good w Rho.none) (fun b hb => ⟨hgood b hb, rfl⟩) _ (Le.refl _)
      have hlt : k < vs.size := by omega
      simp only [argFr_eq, hx, Option.getD_some]
      simpa [Array.getElem?_append_left hlt] using h1
    · simp only [argFr_eq, List.getElem?_eq_none (Nat.le_of_not_lt hk), Option.getD_none]
      exact .junk
  refine (callsIn_wide (n := 0)).1 (callsIn_of_wp_marks hf hb trivial (wpIn_mono (h E hT rfl rfl rfl _ w ⟨_, h0⟩) ?_))
  rintro e a' w1 ⟨st', ⟨ρ, hs1⟩, he, x, hx, hk, hxr⟩
  suffices hlv : LeavesInM Fence.wide 0 P fn a'.tmps (fun e w' => ∃ v, e = .returned v ∧ Keep (fun _ => False) w w' ∧ R w' (fun b => G b ∨ (w.heap.size ≤ b ∧ b < w'.heap.size)) Rho.none res v) a'.defers .returning w1 by
    rcases he with rfl | rfl <;> exact hlv
  obtain ⟨df, hdf, -⟩ := hs1.dfr
  obtain ⟨ta, da⟩ := a'
  simp only at hdf
  subst hdf
  refine SatR.leaves df hs1 fun w' hs' => ?_
  obtain ⟨v, h1, h2⟩ := retF_ok (E := E) hT hs' hx
  have key : ∃ v, (results fn ta).run P w' = .ok v w' ∧ ∃ u, Ending.returned v = .returned u ∧ Keep (fun _ => False) w w' ∧ R w' (fun b => G b ∨ (w.heap.size ≤ b ∧ b < w'.heap.size)) Rho.none res u :=
    ⟨v, h1, v, rfl, hs'.keep, (hxr.ok (h2.free hk)).tr (fun b hb => ⟨by
      rcases hb with ⟨q1 | q1 | q1, q2, _⟩
      · exact .inl q1
      · exact .inr ⟨q1, q2⟩
      · exact q1.elim, rfl⟩) _ (Le.refl _)⟩
  exact key
end
/- States forgotten: named slots and objects are kept, all else goes. -/
def mkFr : List (Nat × AV) → Nat → AV
  | [], _ => .junk
  | (j, x) :: l, k => bif Nat.beq j k then x else mkFr l k
def mkOb : List (Nat × Ob) → Nat → Option Ob
  | [], _ => none
  | (j, x) :: l, k => bif Nat.beq j k then some x else mkOb l k
def ST.of (L : List (Nat × AV)) (O : List (Nat × Ob)) (nx nt : Nat) (md : Nat → Bool) : ST := { fr := mkFr L, ob := mkOb O, nx := nx, nt := nt, md := md }
def Ob.ks (p : Nat → Bool) : Ob → Bool
  | .cells _ cs => AV.ksL p cs
  | .vec _ _ _ _ _ => true
  | .mapo _ _ _ _ => false
  | .mapb _ _ _ _ => true
  | .lrec _ _ cs => AV.ksL p cs
def keptAll (L : List (Nat × AV)) (O : List (Nat × Ob)) : Bool :=
  L.all (fun x => x.2.ks (fun k => (mkOb O k).isSome)) && O.all (fun o => o.2.ks (fun k => (mkOb O k).isSome))
def FrIs (st : ST) : List (Nat × AV) → Prop
  | [] => True
  | [(k, x)] => AvIs (st.fr k) x
  | (k, x) :: l => AvIs (st.fr k) x ∧ FrIs st l
def ObIs1 : Option Ob → Ob → Prop
  | some (.cells t cs), .cells t' cs' => t = t' ∧ cs = cs'
  | some (.vec e sz s n f), .vec e' sz' s' n' f' => (e = e' ∧ sz = sz' ∧ s = s') ∧ n = n' ∧ ∀ i, i < n → f' i = f i
  | some (.mapo kk zv d f), .mapo kk' zv' d' f' => kk = kk' ∧ zv = zv' ∧ ∀ z, d' z = d z ∧ f' z = f z
  | some (.mapb kk zv d f), .mapb kk' zv' d' f' => kk = kk' ∧ zv = zv' ∧ ∀ z, kk.has z = true → d' z = d z ∧ AvIs (f z) (f' z)
  | some (.lrec mk b cs), .lrec mk' b' cs' => mk = mk' ∧ b = b' ∧ cs = cs'
  | _, _ => False
theorem KK.has_of {kk : KK} {v : Value} (h : Go.MapKept.IsKey kk.desc v) : kk.has v = true := by
  cases kk <;> cases v <;> simp_all [KK.has, KK.desc, Go.MapKept.IsKey]
theorem ObIs1.ok {w : World} {G : Nat → Prop} {ρ : Rho} {k : Nat} {o o' : Ob} (h : ObIs1 (some o) o') (ho : ObOk w G ρ k o) : ObOk w G ρ k o' := by
  cases o with
  | cells t cs =>
    cases o' with
    | cells t' cs' =>
      obtain ⟨rfl, rfl⟩ := h
      exact ho
    | vec => exact h.elim
    | mapo => exact h.elim
    | mapb => exact h.elim
    | lrec => exact h.elim
  | vec e sz s n f =>
    cases o' with
    | cells => exact h.elim
    | mapo => exact h.elim
    | mapb => exact h.elim
    | lrec => exact h.elim
    | vec e' sz' s' n' f' =>
      obtain ⟨⟨rfl, rfl, rfl⟩, rfl, hf⟩ := h
      obtain ⟨hv, xs, h1, h2, h3, h4⟩ := ho
      exact ⟨hv, xs, h1, h2, fun i hi => by rw [hf i hi]; exact h3 i hi, fun i j x hi hx => h4 i j x hi (by rw [← hf i hi]; exact hx)⟩
  | mapo kk zv d f =>
    cases o' with
    | cells => exact h.elim
    | vec => exact h.elim
    | mapb => exact h.elim
    | lrec => exact h.elim
    | mapo kk' zv' d' f' =>
      obtain ⟨rfl, rfl, hf⟩ := h
      obtain ⟨g, es, clock, h1, h2, h3, h4⟩ := ho
      exact ⟨g, es, clock, h1, h2, h3, fun z hz => by rw [(hf z).1, (hf z).2]; exact h4 z hz⟩
  | mapb kk zv d f =>
    cases o' with
    | cells => exact h.elim
    | vec => exact h.elim
    | mapo => exact h.elim
    | lrec => exact h.elim
    | mapb kk' zv' d' f' =>
      obtain ⟨rfl, rfl, hf⟩ := h
      obtain ⟨g, es, clock, h1, h2, h3, h4⟩ := ho
      refine ⟨g, es, clock, h1, h2, h3, fun z hz => ?_⟩
      obtain ⟨r, g1, g2, g3⟩ := h4 z hz
      obtain ⟨q1, q2⟩ := hf z (KK.has_of hz)
      exact ⟨r, g1, by rw [q1]; exact g2, q2.ok g3⟩
  | lrec mk b cs =>
    cases o' with
    | cells => exact h.elim
    | vec => exact h.elim
    | mapo => exact h.elim
    | mapb => exact h.elim
    | lrec mk' b' cs' =>
      obtain ⟨rfl, rfl, rfl⟩ := h
      exact ho
def ObIs (st : ST) : List (Nat × Ob) → Prop
  | [] => True
  | [(k, o)] => ObIs1 (st.ob k) o
  | (k, o) :: l => ObIs1 (st.ob k) o ∧ ObIs st l
theorem FrIs.cons {st : ST} {k : Nat} {x : AV} {l : List (Nat × AV)} (h : FrIs st ((k, x) :: l)) : AvIs (st.fr k) x ∧ FrIs st l := by
  cases l with
  | nil => exact ⟨h, trivial⟩
  | cons y l => exact h
theorem ObIs.cons {st : ST} {k : Nat} {x : Ob} {l : List (Nat × Ob)} (h : ObIs st ((k, x) :: l)) : ObIs1 (st.ob k) x ∧ ObIs st l := by
  cases l with
  | nil => exact ⟨h, trivial⟩
  | cons y l => exact h
theorem mkFr_or {st : ST} : ∀ {L : List (Nat × AV)}, FrIs st L → ∀ k, mkFr L k = .junk ∨ (AvIs (st.fr k) (mkFr L k) ∧ ∃ x ∈ L, x.2 = mkFr L k)
  | [], _, k => .inl rfl
  | (j, x) :: l, h, k => by
    obtain ⟨h1, h2⟩ := h.cons
    simp only [mkFr]
    cases hb : Nat.beq j k with
    | true =>
      have := Nat.eq_of_beq_eq_true hb
      subst this
      exact .inr ⟨by rw [cond_true]; exact h1, (j, x), by simp, by rw [cond_true]⟩
    | false =>
      rw [cond_false]
      rcases mkFr_or h2 k with h3 | ⟨h3, y, h4, h5⟩
      · exact .inl h3
      · exact .inr ⟨h3, y, by simp [h4], h5⟩
theorem mkOb_some {st : ST} : ∀ {O : List (Nat × Ob)}, ObIs st O → ∀ k o, mkOb O k = some o → ObIs1 (st.ob k) o ∧ (k, o) ∈ O
  | [], _, k, o, h => by cases h
  | (j, x) :: l, h, k, o, ho => by
    simp only [mkOb] at ho
    cases hb : Nat.beq j k with
    | true =>
      have := Nat.eq_of_beq_eq_true hb
      subst this
      rw [hb, cond_true] at ho
      injection ho with ho
      subst ho
      exact ⟨h.cons.1, by simp⟩
    | false =>
      rw [hb, cond_false] at ho
      obtain ⟨h1, h2⟩ := mkOb_some h.cons.2 k o ho
      exact ⟨h1, by simp [h2]⟩
theorem SatR.weakFr {E : Env} {st : ST} {a : Act} {w : World} {ρ : Rho} (h : SatR E st a w ρ) {fr' : Nat → AV} (hf : ∀ k, fr' k = .junk ∨ AvIs (st.fr k) (fr' k)) : SatR E { st with fr := fr' } a w ρ :=
  ⟨h.keep, h.tsz, h.dfr, fun k => by
    show R w (E.good w ρ) ρ (fr' k) _
    rcases hf k with h1 | h1
    · rw [h1]; exact .junk
    · exact h1.ok (h.fr k), h.ob, h.no, h.dis, h.own, h.le⟩
def allKept (n : Nat) (O : List (Nat × Ob)) : Bool := (List.range n).all (fun k => (mkOb O k).isSome)
theorem SatR.of {E : Env} {st : ST} {L : List (Nat × AV)} {O : List (Nat × Ob)} {nx nt : Nat} {md : Nat → Bool} (hnt : nt = st.nt) (hk : keptAll L O = true) (hn : allKept E.N O = true) (hL : FrIs st L) (hO : ObIs st O) {a : Act} {w : World} {ρ : Rho} (h : SatR E st a w ρ) :
    SatR E (ST.of L O nx nt md) a w (fun k => if (mkOb O k).isSome then ρ k else none) := by
  simp only [keptAll, Bool.and_eq_true, List.all_eq_true] at hk
  simp only [allKept, List.all_eq_true, List.mem_range] at hn
  have h1 := h.weakFr (fr' := mkFr L) fun k => by
    rcases mkFr_or hL k with h1 | ⟨h1, _⟩
    · exact .inl h1
    · exact .inr h1
  refine h1.cut (st' := ST.of L O nx nt md) (fun k => (mkOb O k).isSome) hnt (fun k => ?_) (fun k o ho => ?_) (fun k hn => ?_) (fun k o ho => ?_) hn
  · rcases mkFr_or hL k with h1 | ⟨h1, x, hx, h2⟩
    · exact .inl h1
    · exact .inr ⟨rfl, (by show AV.ks _ (mkFr L k) = true; rw [← h2]; exact hk.1 x hx)⟩
  · have ho' : mkOb O k = some o := ho
    simp [ho']
  · have hn' : mkOb O k = none := hn
    simp [hn']
  · have ho' : mkOb O k = some o := ho
    obtain ⟨h1, h2⟩ := mkOb_some hO k o ho'
    have h3 := hk.2 _ h2
    show (∃ t cs, _ ∧ st.ob k = some o ∧ _) ∨ (∃ e sz s n f f', _ ∧ st.ob k = _ ∧ _) ∨ ∃ o1, st.ob k = some o1 ∧ _ ∧ (_ ∨ _)
    cases hst : st.ob k with
    | none => rw [hst] at h1; exact h1.elim
    | some o1 =>
      rw [hst] at h1
      cases o1 with
      | cells t cs =>
        cases o with
        | cells t' cs' =>
          obtain ⟨rfl, rfl⟩ := h1
          exact .inl ⟨t, cs, rfl, rfl, h3⟩
        | vec => exact h1.elim
        | mapo => exact h1.elim
        | mapb => exact h1.elim
        | lrec => exact h1.elim
      | vec e sz s n f =>
        cases o with
        | cells => exact h1.elim
        | mapo => exact h1.elim
        | mapb => exact h1.elim
        | lrec => exact h1.elim
        | vec e' sz' s' n' f' =>
          obtain ⟨⟨rfl, rfl, rfl⟩, rfl, hf⟩ := h1
          exact .inr (.inl ⟨e, sz, s, n, f, f', rfl, rfl, hf⟩)
      | mapo =>
        cases o with
        | mapo => simp [Ob.ks] at h3
        | mapb => exact h1.elim
        | lrec => exact h1.elim
        | cells => exact h1.elim
        | vec => exact h1.elim
      | mapb kk zv d f =>
        cases o with
        | mapo => exact h1.elim
        | cells => exact h1.elim
        | vec => exact h1.elim
        | lrec => exact h1.elim
        | mapb kk' zv' d' f' =>
          exact .inr (.inr ⟨_, rfl, fun w G ρ ho => ObIs1.ok h1 ho, .inl ⟨_, _, _, _, rfl⟩⟩)
      | lrec mk b cs =>
        cases o with
        | cells => exact h1.elim
        | vec => exact h1.elim
        | mapo => exact h1.elim
        | mapb => exact h1.elim
        | lrec mk' b' cs' =>
          obtain ⟨rfl, rfl, rfl⟩ := h1
          exact .inr (.inr ⟨_, rfl, fun _ _ _ ho => ho, .inr ⟨mk, b, cs, rfl, rfl, h3⟩⟩)
theorem Weak.of {E : Env} {st : ST} {L : List (Nat × AV)} {O : List (Nat × Ob)} {nx nt n : Nat} {md : Nat → Bool} (hN : E.N = n) (hnt : nt = st.nt) (hk : keptAll L O = true) (hn : allKept n O = true) (hL : FrIs st L) (hO : ObIs st O) : Weak E st (ST.of L O nx nt md) := by
  subst hN
  intro a w ⟨ρ, h⟩
  exact ⟨_, h.of hnt hk hn hL hO⟩
end Go.Eng
end
section
/- The engine, part N: what the table of types takes, as closed equations. -/
namespace Go.Eng
def LeafOk (P : Program) (t : Nat) (ks : List TK) : Prop := P.eqGuardType P.depth t = false ∧ ∀ xs ys b w, cellsEq ks xs ys = some b → (Op.equal t (.agg xs.toArray) (.agg ys.toArray)).run P w = .ok b w
theorem TIOk.of {P : Program} {t : Nat} {kind : TK} {size bytes : Nat} {zero : List Value} {leaf : Option (List TK)} {z : Value} (hi : (P.info? t).map (fun i => (i.size, i.bytes, i.zero)) = some (size, bytes, some z)) (hz : z.cells = zero.toArray) (hzv : z = TI.zv { kind := kind, size := size, bytes := bytes, zero := zero, leaf := leaf })
    (hk : KindOk P t kind) (hl : ∀ ks, leaf = some ks → LeafOk P t ks) : TIOk P t { kind := kind, size := size, bytes := bytes, zero := zero, leaf := leaf } := by
  cases h : P.info? t with
  | none => simp [h] at hi
  | some i =>
    simp [h] at hi
    exact ⟨⟨i, z, h, hi.1, hi.2.1, hi.2.2, hz⟩, ⟨i, h, hzv ▸ hi.2.2⟩, hk, fun ks e => hl ks e⟩
theorem KindOk.struct_of {P : Program} {t : Nat} {pl : List (Nat × Nat)} {ty : List Nat}
    (h : (match P.underlying t with
      | some (.struct fs) => some (fs.toList.mapM (fun f => (P.info? f.type).map fun i => (f.offset, i.size)), fs.toList.map (·.type))
      | _ => none) = some (some pl, ty)) : KindOk P t (.struct pl ty) := by
  split at h
  · rename_i fs hu
    simp only [Option.some.injEq, Prod.mk.injEq] at h
    exact ⟨fs, hu, h.1, h.2⟩
  · cases h
theorem KindOk.other_of {P : Program} {t : Nat}
    (h : (match P.underlying t with
      | none => false
      | some (.struct _) => false
      | some (.array _ _) => false
      | some _ => true) = true) : KindOk P t .other := by
  split at h
  · cases h
  · cases h
  · cases h
  · rename_i d h1 h2 hu
    refine ⟨d, hu, ?_⟩
    split
    · exact h1 _ rfl
    · exact h2 _ _ rfl
    · trivial
end Go.Eng
end
section
/- The engine, part O: regions that draw their order. What a step hangs on; any order comes to the same. -/
namespace Go.Eng
mutual
def AV.keys : AV → List Nat
  | .agg l => AV.keysL l
  | .tup l => AV.keysL l
  | .fn _ l l' => AV.keysL l ++ AV.keysL l'
  | .ptr k _ => [k]
  | .mp k => [k]
  | .vptr k _ _ _ _ => [k]
  | .vec k _ => [k]
  | .gd _ a => AV.keys a
  | .junk => []
  | .c _ => []
  | .rptr _ => []
  | .rs _ _ _ => []
def AV.keysL : List AV → List Nat
  | [] => []
  | a :: l => AV.keys a ++ AV.keysL l
end
section
variable {ob ob' : Nat → Option Ob} {T : TE}
theorem live_congr {x : AV} (h : ∀ k ∈ x.keys, ob' k = ob k) : live ob' x = live ob x := by
  cases x <;> simp only [live]
  · rename_i k s sz i off; rw [h k (by simp [AV.keys])]
  · rename_i k s; rw [h k (by simp [AV.keys])]
theorem oneAV_congr {x : AV} (h : ∀ k ∈ x.keys, ob' k = ob k) : oneAV ob' x = oneAV ob x := by
  have hl := live_congr h
  cases x <;> simp only [oneAV] <;> exact hl
theorem avCells_congr {x : AV} (h : ∀ k ∈ x.keys, ob' k = ob k) : avCells ob' x = avCells ob x := by
  have hl := live_congr h
  cases x with
  | c v => cases v <;> simp [avCells, live]
  | _ => simp_all [avCells]
theorem avCells_keys {x : AV} {l : List AV} (h : avCells ob x = some l) : ∀ y ∈ l, ∀ k ∈ y.keys, k ∈ x.keys := by
  have lst : ∀ {l : List AV} {y : AV} {k : Nat}, y ∈ l → k ∈ y.keys → k ∈ AV.keysL l := by
    intro l
    induction l with
    | nil => intro y k hy; cases hy
    | cons a l ih =>
      intro y k hy hk
      simp only [AV.keysL, List.mem_append]
      rcases List.mem_cons.1 hy with rfl | hy
      · exact .inl hk
      · exact .inr (ih hy hk)
  intro y hy k hk
  cases x with
  | agg l' =>
    simp only [avCells, Option.some.injEq] at h
    subst h
    simp only [AV.keys]
    exact lst hy hk
  | c v =>
    cases v <;> simp [avCells, live] at h <;> (subst h; simp at hy; subst hy; exact hk)
  | junk => simp [avCells] at h
  | tup l' => simp [avCells] at h
  | gd g a => simp [avCells] at h
  | ptr k off => simp [avCells, live] at h; subst h; simp at hy; subst hy; exact hk
  | mp k => simp [avCells, live] at h; subst h; simp at hy; subst hy; exact hk
  | rptr l' => simp [avCells, live] at h; subst h; simp at hy; subst hy; exact hk
  | rs sz n f => simp [avCells, live] at h; subst h; simp at hy; subst hy; exact hk
  | fn f l1 l2 => simp [avCells, live] at h; subst h; simp at hy; subst hy; exact hk
  | vec k' s =>
    cases hb : live ob (.vec k' s) with
    | false => simp [avCells, hb] at h
    | true => simp [avCells, hb] at h; subst h; simp at hy; subst hy; exact hk
  | vptr k' s sz i off =>
    cases hb : live ob (.vptr k' s sz i off) with
    | false => simp [avCells, hb] at h
    | true => simp [avCells, hb] at h; subst h; simp at hy; subst hy; exact hk
theorem loadF_congr {t : TypeId} {x : AV} (h : ∀ k ∈ x.keys, ob' k = ob k) : loadF T ob' t x = loadF T ob t x := by
  cases x <;> simp only [loadF]
  · rename_i k off; rw [h k (by simp [AV.keys])]
  · rename_i k s sz i off; rw [h k (by simp [AV.keys])]
theorem fieldF_congr {s : TypeId} {f : Nat} {x : AV} (h : ∀ k ∈ x.keys, ob' k = ob k) : fieldF T ob' s f x = fieldF T ob s f x := by
  have hl := live_congr h
  cases x <;> simp only [fieldF] <;> simp only [hl]
theorem indexF_congr {t : TypeId} {x y : AV} (h : ∀ k ∈ x.keys, ob' k = ob k) : indexF T ob' t x y = indexF T ob t x y := by
  cases y with
  | c v =>
    cases v with
    | int ik i =>
      cases x with
      | vec k s => simp only [indexF, h k (by simp [AV.keys])]
      | vptr k s sz i off => simp only [indexF, h k (by simp [AV.keys])]
      | _ => rfl
    | _ => rfl
  | _ => rfl
theorem lenF_congr {t : TypeId} {x : AV} (h : ∀ k ∈ x.keys, ob' k = ob k) : lenF T ob' t x = lenF T ob t x := by
  cases x with
  | vec k s => simp only [lenF]; rw [h k (by simp [AV.keys])]
  | c v => cases v <;> simp only [lenF]
  | _ => simp only [lenF]
theorem nilF_congr {x : AV} (h : ∀ k ∈ x.keys, ob' k = ob k) : nilF ob' x = nilF ob x := by
  have hl := live_congr h
  cases x with
  | fn f l l' => cases f <;> simp only [nilF]
  | _ => simp only [nilF] <;> simp only [hl]
theorem pcells_congr : ∀ {l : List (Nat × AV)}, (∀ p ∈ l, ∀ k ∈ p.2.keys, ob' k = ob k) → pcells ob' l = pcells ob l
  | [], _ => rfl
  | (i, x) :: l, h => by
    simp only [pcells]
    rw [avCells_congr (h (i, x) (by simp)), pcells_congr (fun p hp => h p (by simp [hp]))]
theorem srcF_congr {x : AV} (h : ∀ k ∈ x.keys, ob' k = ob k) : srcF ob' x = srcF ob x := by
  cases x <;> simp only [srcF]
  rename_i k s; rw [h k (by simp [AV.keys])]
theorem appendF_congr {k t : Nat} {s x : AV} (hk : ob' k = ob k) (hs : ∀ k ∈ s.keys, ob' k = ob k) (hx : ∀ k ∈ x.keys, ob' k = ob k) : appendF T ob' k t s x = appendF T ob k t s x := by
  cases s with
  | vec k1 s1 => simp only [appendF, srcF_congr hx, hs k1 (by simp [AV.keys])]
  | c v =>
    cases v with
    | slice a l cc =>
      cases a with
      | some _ => simp only [appendF, srcF_congr hx]
      | none =>
        match l, cc with
        | 0, 0 => simp only [appendF, srcF_congr hx, hk]
        | 0, c + 1 => simp only [appendF, srcF_congr hx]
        | l + 1, c => simp only [appendF, srcF_congr hx]
    | _ => simp only [appendF, srcF_congr hx]
  | _ => simp only [appendF, srcF_congr hx]
theorem all_congr {α : Type} {f g : α → Bool} : ∀ {l : List α}, (∀ z ∈ l, f z = g z) → l.all f = l.all g
  | [], _ => rfl
  | a :: l, h => by simp only [List.all_cons]; rw [h a (by simp), all_congr (fun z hz => h z (by simp [hz]))]
theorem storeF_congr {t : TypeId} {x y : AV} (hx : ∀ k ∈ x.keys, ob' k = ob k) (hy : ∀ k ∈ y.keys, ob' k = ob k) : storeF T ob' t x y = storeF T ob t x y := by
  unfold storeF
  rw [avCells_congr hy]
  cases T.find t with
  | none => rfl
  | some ti =>
    cases hl : avCells ob y with
    | none => rfl
    | some l =>
      have hall : l.all (oneAV ob') = l.all (oneAV ob) := all_congr fun z hz => oneAV_congr fun k hk => hy k (avCells_keys hl z hz k hk)
      cases x with
      | ptr k off => simp only [hall, hx k (by simp [AV.keys])]
      | vptr k s sz i off => simp only [hall, hx k (by simp [AV.keys])]
      | _ => simp only [hall]
theorem valF_congr {wr : Bool} {e e' : Operand → AV} {op : Op} (he : ∀ x ∈ op.operands, e' x = e x) (hk : ∀ x ∈ op.operands, ∀ k ∈ (e x).keys, ob' k = ob k) : valF T ob' wr e' op = valF T ob wr e op := by
  cases op <;> simp only [Op.operands] at he hk <;> try rfl
  case move x => simp only [valF]; rw [he x (by simp)]
  case assign x => simp only [valF]; rw [he x (by simp)]
  case load t x => simp only [valF]; rw [he x (by simp), loadF_congr (hk x (by simp))]
  case nilCheck x => simp only [valF]; rw [he x (by simp), nilF_congr (hk x (by simp))]
  case binOp b t x y u => simp only [valF]; rw [he x (by simp), he y (by simp)]
  case unOp u t x => simp only [valF]; rw [he x (by simp)]
  case convert s d x => simp only [valF]; rw [he x (by simp)]
  case fieldAddr s x f => simp only [valF]; rw [he x (by simp), fieldF_congr (hk x (by simp))]
  case field s x f => simp only [valF]; rw [he x (by simp)]
  case indexAddr t x i => simp only [valF]; rw [he x (by simp), he i (by simp), indexF_congr (hk x (by simp))]
  case index t x i => simp only [valF]; rw [he x (by simp), he i (by simp)]
  case extract t i => simp only [valF]; rw [he t (by simp)]
  case slice t x lo hi mx =>
    cases mx with
    | some m => rfl
    | none =>
      simp only [valF]
      rw [he x (by simp)]
      congr 1
      · cases lo with
        | none => rfl
        | some y => simp only [Option.map_some]; rw [he y (by simp)]
      · cases hi with
        | none => rfl
        | some y => simp only [Option.map_some]; rw [he y (by simp)]
  case makeFunc fn first cap =>
    simp only [valF]
    congr 3
    · exact List.map_congr_left fun x hx => he x (by simp; exact .inl (by simpa using hx))
    · exact List.map_congr_left fun x hx => he x (by simp; exact .inr (by simpa using hx))
  case build t parts =>
    simp only [valF]
    have h1 : (parts.toList.map fun p => (p.1, e' p.2)) = (parts.toList.map fun p => (p.1, e p.2)) := List.map_congr_left fun p hp => by rw [he p.2 (by simp; exact ⟨p.1, by simpa using hp⟩)]
    rw [h1]
    unfold buildF
    rw [pcells_congr (fun p hp k hkk => by
      simp only [List.mem_map] at hp
      obtain ⟨q, hq, rfl⟩ := hp
      exact hk q.2 (by simp; exact ⟨q.1, by simpa using hq⟩) k hkk)]
  case call c =>
    obtain ⟨callee, args, tys⟩ := c
    simp only [Call.operands] at he hk
    have hm : args.toList.map e' = args.toList.map e := List.map_congr_left fun x hx => he x (by simp; exact .inr (by simpa using hx))
    simp only [valF]
    split
    · rename_i x t h2 h3
      have hx : x ∈ args := by
        have : x ∈ args.toList := by rw [h2]; simp
        simpa using this
      rw [he x (by simp [hx]), lenF_congr (hk x (by simp [hx]))]
    · rw [hm]
    · rw [hm]
    · rfl
theorem copyF_congr {t : Nat} {s x : AV} (hs : ∀ k ∈ s.keys, ob' k = ob k) (hx : ∀ k ∈ x.keys, ob' k = ob k) : copyF T ob' t s x = copyF T ob t s x := by
  cases s with
  | vec k s1 => show copyG T t k s1 (ob' k) (srcF ob' x) = copyG T t k s1 (ob k) (srcF ob x); rw [srcF_congr hx, hs k (by simp [AV.keys])]
  | _ => rfl
theorem lookF_congr {t : Nat} {ok : Bool} {x y : AV} (h : ∀ k ∈ x.keys, ob' k = ob k) : lookF T ob' t ok x y = lookF T ob t ok x y := by
  cases x with
  | mp k => cases y <;> simp only [lookF]; rw [h k (by simp [AV.keys])]
  | _ => rfl
theorem mputF_congr {t : Nat} {x y z : AV} (h : ∀ k ∈ x.keys, ob' k = ob k) : mputF T ob' t x y z = mputF T ob t x y z := by
  cases x with
  | mp k => cases y <;> simp only [mputF]; rw [h k (by simp [AV.keys])]
  | _ => rfl
theorem effF_congr {st st' : ST} {d : Nat} {e e' : Operand → AV} {op : Op} (hnx : st'.nx = st.nx) (hmd : st'.md = st.md) (he : ∀ x ∈ op.operands, e' x = e x) (hk : ∀ x ∈ op.operands, ∀ k ∈ (e x).keys, st'.ob k = st.ob k) (hd : st'.ob (st.nx + d) = st.ob (st.nx + d)) :
    effF T st' d e' op = effF T st d e op := by
  have hv := valF_congr (T := T) (wr := st.md d) he hk
  unfold effF effG
  simp only [hnx, hmd, hd]
  cases op <;> simp only [Op.operands] at he hk <;> try (simp only [hv]; done)
  case box t x => simp only; rw [he x (by simp), avCells_congr (hk x (by simp))]
  case buildSlice t n parts =>
    have h1 : (parts.toList.map fun p => (p.1, e' p.2)) = (parts.toList.map fun p => (p.1, e p.2)) := List.map_congr_left fun p hp => by rw [he p.2 (by simp; exact ⟨p.1, by simpa using hp⟩)]
    simp only
    rw [h1]
    have : bsCells T st'.ob t n (parts.toList.map fun p => (p.1, e p.2)) = bsCells T st.ob t n (parts.toList.map fun p => (p.1, e p.2)) := by
      unfold bsCells
      rw [pcells_congr (fun p hp k hkk => by
        simp only [List.mem_map] at hp
        obtain ⟨q, hq, rfl⟩ := hp
        exact hk q.2 (by simp; exact ⟨q.1, by simpa using hq⟩) k hkk)]
    rw [this]
  case makeSlice t x y => simp only; rw [he x (by simp), he y (by simp)]
  case store t x y => simp only; rw [he x (by simp), he y (by simp), storeF_congr (hk x (by simp)) (hk y (by simp))]
  case makeMap t r => cases r <;> simp only [hv]
  case lookup t x i ok => simp only; rw [he x (by simp), he i (by simp), lookF_congr (hk x (by simp))]
  case mapUpdate t m i x => simp only; rw [he m (by simp), he i (by simp), he x (by simp), mputF_congr (hk m (by simp))]
  case insert t m i x => simp only; rw [he m (by simp), he i (by simp), he x (by simp), mputF_congr (hk m (by simp))]
  case call c =>
    obtain ⟨callee, args, tys⟩ := c
    simp only [Call.operands] at he hk
    simp only
    rw [hv]
    split
    · rename_i s x t t' h2 h3
      have hs : s ∈ args := by
        have : s ∈ args.toList := by rw [h2]; simp
        simpa using this
      have hx : x ∈ args := by
        have : x ∈ args.toList := by rw [h2]; simp
        simpa using this
      rw [he s (by simp [hs]), he x (by simp [hx]), appendF_congr hd (hk s (by simp [hs])) (hk x (by simp [hx]))]
    · rename_i s x t t' h2 h3
      have hs : s ∈ args := by
        have : s ∈ args.toList := by rw [h2]; simp
        simpa using this
      have hx : x ∈ args := by
        have : x ∈ args.toList := by rw [h2]; simp
        simpa using this
      rw [he s (by simp [hs]), he x (by simp [hx]), copyF_congr (hk s (by simp [hs])) (hk x (by simp [hx]))]
    · rfl
end
/-- The slots that an operation looks at, and the objects. -/
def slotOf : Operand → List Nat
  | .tmp t => [t]
  | _ => []
def fpF (l : List Oper) (st : ST) (o : Oper) : List Nat × List Nat :=
  (o.op.operands.toList.flatMap slotOf ++ (match o.guard with
    | some (j, _) => (match l[j]? with
      | some o' => o'.dst.toList
      | none => [])
    | none => []),
   o.op.operands.toList.flatMap (fun x => (st.ev x).keys) ++ [st.nx + o.dst.getD 0])
def agree (fp : List Nat × List Nat) (st st' : ST) : Prop := st'.nx = st.nx ∧ st'.nt = st.nt ∧ st'.md = st.md ∧ (∀ r ∈ fp.1, st'.fr r = st.fr r) ∧ ∀ k ∈ fp.2, st'.ob k = st.ob k
theorem strip_keys (x : AV) : (strip x).keys = x.keys := by cases x <;> simp [strip, AV.keys]
theorem ev_agree {l : List Oper} {st st' : ST} {o : Oper} (h : agree (fpF l st o) st st') : ∀ x ∈ o.op.operands, st'.ev x = st.ev x := by
  intro x hx
  cases x with
  | tmp t => exact h.2.2.2.1 t (List.mem_append_left _ (List.mem_flatMap.2 ⟨.tmp t, by simpa using hx, by simp [slotOf]⟩))
  | _ => rfl
theorem stepF_congr {T : TE} {l : List Oper} {st st' : ST} {o : Oper} (h : agree (fpF l st o) st st') : stepF T l st' o = stepF T l st o := by
  have hev := ev_agree h
  obtain ⟨h1, h2, h3, h4, h5⟩ := h
  have heff : effG T st' (o.dst.getD 0) (st'.nx + o.dst.getD 0) (fun x => strip (st'.ev x)) o.op = effG T st (o.dst.getD 0) (st.nx + o.dst.getD 0) (fun x => strip (st.ev x)) o.op :=
    effF_congr h1 h3 (fun x hx => by simp only [hev x hx]) (fun x hx k hk => h5 k (List.mem_append_left _ (List.mem_flatMap.2 ⟨x, by simpa using hx, by rw [strip_keys] at hk; exact hk⟩))) (h5 _ (List.mem_append_right _ (by simp)))
  have hob : ∀ gc, o.op.operands.toList.flatMap (fun x => oblG gc (st'.ev x)) = o.op.operands.toList.flatMap (fun x => oblG gc (st.ev x)) := fun gc => by
    simp only [List.flatMap]
    congr 1
    exact List.map_congr_left fun x hx => by simp only [hev x (by simpa using hx)]
  have hpick : ∀ gc c x y, o.op = .pick c x y → pickF st' gc c x y = pickF st gc c x y := fun gc c x y hop => by
    have e1 := hev c (by rw [hop]; simp [Op.operands])
    have e2 := hev x (by rw [hop]; simp [Op.operands])
    have e3 := hev y (by rw [hop]; simp [Op.operands])
    simp only [pickF, e1, e2, e3]
  have hgv : ∀ j pol, o.guard = some (j, pol) → gval st' l j pol = gval st l j pol := fun j pol hg => by
    unfold gval
    cases hl : l[j]? with
    | none => rfl
    | some o' =>
      cases hd : o'.dst with
      | none => simp only [hd]
      | some d =>
        simp only [hd]
        rw [h4 d (List.mem_append_right _ (by simp [hg, hl, hd]))]
  unfold stepF stepG
  cases hg : o.guard with
  | none =>
    simp only
    split
    · rename_i c x y hop
      rw [hpick none c x y hop]
    · rw [heff, hob]
  | some jp =>
    obtain ⟨j, pol⟩ := jp
    simp only
    rw [hgv j pol hg]
    split
    · split
      · rename_i c x y hop
        rw [hpick _ c x y hop]
      · rw [heff, hob]
    · rfl
section
variable {E : Env} {T : TE} {st : ST}
/-- In whatever state looks alike there, the operation does just this. -/
def Local (E : Env) (ops : Array Oper) (o : Oper) (st : ST) (eff : Eff) (fp : List Nat × List Nat) : Prop := ∀ s', agree fp st s' → StepTo E ops o s' (s'.app o.dst eff)
theorem Local.step (hT : TOk E.P T) {ops : Array Oper} {o : Oper} {obl : List Prop} {eff : Eff} (hs : stepF T ops.toList st o = some (obl, eff)) (ho : ∀ p ∈ obl, p) (hd : ops.toList.all (dstOk st) = true) (hm : o ∈ ops.toList) : Local E ops o st eff (fpF ops.toList st o) := by
  intro s' ha
  have hnt := ha.2.1
  have dk : ∀ o' ∈ ops.toList, dstOk s' o' = true := fun o' ho' => by
    have := List.all_eq_true.1 hd o' ho'
    simpa [dstOk, hnt] using this
  exact stepF_ok hT ((stepF_congr ha).trans hs) ho (dk o hm) (fun j pol o' d _ hj hdst => dstOk_lt (dk o' (Array.mem_toList_iff.2 (Array.mem_of_getElem? hj))) d hdst)
mutual
theorem lend_congr1 {ob ob' : Nat → Option Ob} : ∀ {a : AV}, (∀ k ∈ a.keys, ob' k = ob k) → a.lend ob' = a.lend ob
  | .agg l, h => by simp only [AV.lend]; rw [lend_congr (l := l) (by simpa [AV.keys] using h)]
  | .tup l, h => by simp only [AV.lend]; rw [lend_congr (l := l) (by simpa [AV.keys] using h)]
  | .fn f l l', h => by
    simp only [AV.keys, List.mem_append] at h
    simp only [AV.lend]
    rw [lend_congr (l := l) (fun k hk => h k (.inl hk)), lend_congr (l := l') (fun k hk => h k (.inr hk))]
  | .ptr k off, h => by simp only [AV.lend, h k (by simp [AV.keys])]
  | .vec k s, h => by simp only [AV.lend, h k (by simp [AV.keys])]
  | .vptr k s sz i off, _ => rfl
  | .mp k, _ => rfl
  | .gd g a, _ => rfl
  | .junk, _ => rfl
  | .c v, _ => rfl
  | .rptr l, _ => rfl
  | .rs sz n f, _ => rfl
theorem lend_congr {ob ob' : Nat → Option Ob} : ∀ {l : List AV}, (∀ k ∈ AV.keysL l, ob' k = ob k) → AV.lendL ob' l = AV.lendL ob l
  | [], _ => rfl
  | a :: l, h => by
    simp only [AV.keysL, List.mem_append] at h
    simp only [AV.lendL]
    rw [lend_congr1 (a := a) (fun k hk => h k (.inl hk)), lend_congr (l := l) (fun k hk => h k (.inr hk))]
end
end
end Go.Eng
end
