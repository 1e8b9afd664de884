import Derived.Test.YtlcfoelfcnhenaaGreatDoorZz14
import Derived.Maps.RangeRun
import Derived.Lib.ItoaMem
import Derived.Lib.AppendStr
import Derived.Lib.SlBytesConst
set_option linter.unusedSimpArgs false
set_option linter.unusedVariables false
section
namespace Go.Eng
open Go.ChangeMaps (setBlock)
def pent (es : List (Value × Nat)) (vs : List Value) : List MapEntry := List.zipWith (fun x v => { key := x.1, val := v, born := x.2 }) es vs
def pmk (es : List (Value × Nat)) (clock : Nat) : Array Value → Obj := fun arr => .map (pent es arr.toList).toArray clock
def itk (b since : Nat) (seen : Array Nat) (last : Nat) : Array Value → Obj := fun _ => .mapIter (some b) since seen last
structure PinOk (kk : KK) (d : Value → Bool) (es : List (Value × Nat)) (clock : Nat) : Prop where
  key : ∀ x ∈ es, kk.has x.1 = true
  lt : ∀ x ∈ es, x.2 < clock
  nb : (es.map (·.2)).Nodup
  nk : (es.map (·.1)).Nodup
  dom : ∀ v, kk.has v = true → (d v = true ↔ ∃ b, (v, b) ∈ es)
theorem pent_keys : ∀ {es : List (Value × Nat)} {vs : List Value}, vs.length = es.length → (pent es vs).map (·.key) = es.map (·.1)
  | [], _, _ => by simp [pent]
  | x :: es, [], h => by simp at h
  | x :: es, v :: vs, h => by simpa [pent] using pent_keys (es := es) (vs := vs) (by simpa using h)
theorem pent_born : ∀ {es : List (Value × Nat)} {vs : List Value}, vs.length = es.length → (pent es vs).map (·.born) = es.map (·.2)
  | [], _, _ => by simp [pent]
  | x :: es, [], h => by simp at h
  | x :: es, v :: vs, h => by simpa [pent] using pent_born (es := es) (vs := vs) (by simpa using h)
theorem pent_at {es : List (Value × Nat)} {vs : List Value} (h : vs.length = es.length) (j : Nat) (hj : j < es.length) : (pent es vs)[j]? = some { key := es[j].1, val := vs.getD j undef, born := es[j].2 } := by
  have hv : j < vs.length := by omega
  simp [pent, List.getElem?_zipWith, List.getElem?_eq_getElem hj, List.getElem?_eq_getElem hv]
theorem pent_len {es : List (Value × Nat)} {vs : List Value} (h : vs.length = es.length) : (pent es vs).length = es.length := by simp [pent, h]
theorem pent_of (l : List MapEntry) : pent (l.map fun e => (e.key, e.born)) (l.map (·.val)) = l := by
  induction l with
  | nil => rfl
  | cons e l ih => simp [pent]
section
variable {E : Env} {st : ST} {a : Act} {w : World} {ρ : Rho} {Q : Exit → ST → Prop} {T : TE} {ops : Array Oper} {rest : List Oper} {o : Oper}
theorem pin_spec {kk : KK} {d : Value → Bool} {es : Array MapEntry} {clock : Nat} (hs : Go.MapKept.Stamped es clock) (hk : ∀ e ∈ es.toList, kk.has e.key = true) (hd : ∀ v, kk.has v = true → ∃ r, Holds es.toList v r ∧ r.isSome = d v) :
    PinOk kk d (es.toList.map fun e => (e.key, e.born)) clock where
  key := fun x hx => by obtain ⟨e, he, rfl⟩ := List.mem_map.1 hx; exact hk e he
  lt := fun x hx => by obtain ⟨e, he, rfl⟩ := List.mem_map.1 hx; exact hs.1 e he
  nb := by rw [List.map_map]; exact hs.2.1
  nk := by rw [List.map_map]; exact hs.2.2
  dom := fun v hv => by
    obtain ⟨r, h1, h2⟩ := hd v hv
    constructor
    · intro h
      rw [h] at h2
      rcases h1 with ⟨rfl, _⟩ | ⟨e, he, rfl, _⟩
      · cases h2
      · exact ⟨e.born, List.mem_map.2 ⟨e, he, rfl⟩⟩
    · rintro ⟨b, hb⟩
      obtain ⟨e, he, h3⟩ := List.mem_map.1 hb
      injection h3 with h3 h4
      rcases h1 with ⟨rfl, h⟩ | ⟨_, _, _, rfl⟩
      · exact absurd h3 (h e he)
      · rw [← h2]; rfl
theorem SatR.pin (h : SatR E st a w ρ) {k : Nat} {kk : KK} {zv : Value} {d : Value → Bool} {f : Value → AV} (hk : st.ob k = some (.mapb kk zv d f)) :
    ∃ b es clock, PinOk kk d es clock ∧ (∀ v, kk.has v = true → d v = false → R w (E.good w ρ) Rho.none (f v) zv) ∧ SatR E { st with ob := upd st.ob k (some (.lrec (pmk es clock) b (es.map fun x => f x.1))) } a w ρ := by
  obtain ⟨g, es, clock, h1, h2, ⟨h3, h4⟩, h5⟩ := h.ob k _ hk
  refine ⟨g, es.toList.map fun e => (e.key, e.born), clock, pin_spec h3 h4 fun v hv => ?_, fun v hv hd => ?_, ?_⟩
  · obtain ⟨r, r1, r2, _⟩ := h5 v hv
    exact ⟨r, r1, r2⟩
  · obtain ⟨r, r1, r2, r3⟩ := h5 v hv
    rw [hd] at r2
    cases r with
    | none => exact r3
    | some _ => cases r2
  have hu : upd ρ k (some (.blk g)) = ρ := by
    funext j
    by_cases hj : j = k
    · subst hj; rw [upd_same, h1]
    · rw [upd_other _ _ hj]
  have := h.turn (k := k) (x := .blk g) (o := .lrec (pmk (es.toList.map fun e => (e.key, e.born)) clock) g ((es.toList.map fun e => (e.key, e.born)).map fun x => f x.1)) (w' := w) (.inr (.inl h1))
    ⟨rfl, rfl, rfl, Nat.le_refl _, fun _ _ _ => rfl⟩ (Nat.le_refl _) (fun b hb => .inl (by rw [h1]; exact hb)) fun hG hl => by
      rw [hu] at hG hl ⊢
      refine ⟨(es.toList.map (·.val)).toArray, h1, ?_, by simp, fun i x hx => ?_⟩
      · rw [h2]; simp [pmk, pent_of]
      · simp only [List.getElem?_map, Option.map_map, Option.map_eq_some_iff] at hx
        obtain ⟨e, he, rfl⟩ := hx
        have hm := List.mem_of_getElem? he
        obtain ⟨r, r1, r2, r3⟩ := h5 e.key (h4 e hm)
        have hr : r = some e.val := r1.fn h3.2.2 (.inr ⟨e, hm, rfl, rfl⟩)
        subst hr
        have := (r3.tr hG _ (Le.none _) : R w (E.good w ρ) ρ (f e.key) e.val)
        simpa [List.getElem?_map, he] using this
  rwa [hu] at this
theorem XK.pin {c : Code} {k : List It} {m : Nat} {kk : KK} {zv : Value} {d : Value → Bool} {f : Value → AV} (hk : st.ob m = some (.mapb kk zv d f))
    (h : ∀ b es clock, PinOk kk d es clock → XK E (.code c :: k) Q { st with ob := upd st.ob m (some (.lrec (pmk es clock) b (es.map fun x => f x.1))) }) : XK E (.code c :: k) Q st := by
  intro a w ⟨ρ, hs⟩
  obtain ⟨b, es, clock, h1, _, h2⟩ := hs.pin hk
  exact h b es clock h1 a w ⟨ρ, h2⟩
theorem XL.any (hg : o.guard = none) (h : ∀ a w ρ, SatR E st a w ρ → ∃ n w', (execOp a.eval o).run E.P w = .ok (.value n) w' ∧ ∃ st', Sat E st' (a.put o.dst n) w' ∧ XL E ops Q rest st') : XL E ops Q (o :: rest) st := by
  intro a w ⟨ρ, hs⟩
  refine wpListIn_step fun K hK => ?_
  obtain ⟨n, w', h1, st', h2, h3⟩ := h a w ρ hs
  rw [if_pos (by simp [Region.wanted, hg])]
  exact wpIn_run h1 (fun _ e => by cases e) (hK _ _ (h3 _ _ h2))
theorem run_v {P : Program} {ev : Operand → Value} {it : Operand} {v : Value} {w w' : World} (ho : o.op = .next it false) (h : (Instr.next (ev it) false o.type).run P w = .ok v w') : (execOp ev o).run P w = .ok (.value v) w' := by
  simp only [execOp, ho, Sem.run_bind, h, Result.andThen_ok, Sem.run_pure]
theorem run_e {P : Program} {ev : Operand → Value} {it : Operand} {v : Value} {w w' : World} (ho : o.op = .entry it) (h : (Instr.entry (ev it)).run P w = .ok v w') : (execOp ev o).run P w = .ok (.value v) w' := by
  simp only [execOp, ho, Sem.run_bind, h, Result.andThen_ok, Sem.run_pure]
theorem XL.range (hT : TOk E.P T) {t : TypeId} {x : Operand} {d m b clock : Nat} {es : List (Value × Nat)} {cs : List AV} {kt et : Nat} {ti : TI} (ho : o.op = .range t x) (hg : o.guard = none) (hd : o.dst = some d) (hdl : Nat.blt d st.nt = true)
    (ht : T.find t = some ti) (hkd : ti.kind = .map kt et) (hx : st.ev x = .mp m) (hm : st.ob m = some (.lrec (pmk es clock) b cs)) (hn : st.ob (st.nx + d) = none)
    (h : ∀ bi, XL E ops Q rest { st with fr := upd st.fr d (.ptr (st.nx + d) 0), ob := upd st.ob (st.nx + d) (some (.lrec (itk b clock #[] clock) bi [])) }) : XL E ops Q (o :: rest) st := by
  refine XL.any hg fun a w ρ hs => ?_
  have hk := (hT t ti ht).kind
  rw [hkd] at hk
  obtain ⟨arr, h1, h2, h3, h4⟩ := hs.ob m _ hm
  obtain ⟨g, hg1, hev⟩ : ∃ g, ρ m = some (.blk g) ∧ a.eval x = .map (some g) := by
    have := hs.ev x
    rw [hx] at this
    generalize a.eval x = u at this
    cases this with | mp hk => exact ⟨_, hk, rfl⟩
  rw [h1] at hg1
  injection hg1 with hg1
  injection hg1 with hg1
  subst hg1
  have hno := hs.no _ hn
  refine ⟨.pointer (some ⟨w.heap.size, 0, .none⟩), w.alloc (.mapIter (some b) clock #[] clock), ?_, _, ⟨upd ρ (st.nx + d) (some (.blk w.heap.size)), ?_⟩, h w.heap.size⟩
  · simp [execOp, ho, Instr.range, hev, run_underlying hk, getObj, Sem.run, h2, pmk, Result.andThen]
  · rw [hd]
    have h5 : SatR E { st with ob := upd st.ob (st.nx + d) (some (.lrec (itk b clock #[] clock) w.heap.size [])) } a (w.alloc (.mapIter (some b) clock #[] clock)) (upd ρ (st.nx + d) (some (.blk w.heap.size))) :=
      hs.turn (.inl hno) (by rw [hno]; exact World.grownBy_alloc w _ none) (Nat.le_refl _) (fun b' hb => by injection hb with hb; subst hb; exact .inr (Nat.le_refl _)) fun hG hl =>
        ⟨#[], upd_same _ _ _, heap_alloc_new w _, rfl, fun i x hx => by cases hx⟩
    exact h5.put (Nat.lt_of_succ_le (Nat.le_of_ble_eq_true hdl)) (.ptr (upd_same _ _ _))
theorem XL.next {it : Operand} {d m b bi clock last ki : Nat} {es : List (Value × Nat)} {cs : List AV} {seen : Array Nat} (ho : o.op = .next it false) (hg : o.guard = none) (hd : o.dst = some d) (hdl : Nat.blt d st.nt = true)
    (hx : st.ev it = .ptr ki 0) (hi : st.ob ki = some (.lrec (itk b clock seen last) bi [])) (hm : st.ob m = some (.lrec (pmk es clock) b cs)) (hcs : cs.length = es.length) (hlt : ∀ x ∈ es, x.2 < clock) (hll : clock ≤ last)
    (h1 : ∀ (j : Nat) (hj : j < es.length) (x : AV), cs[j]? = some x → es[j].2 ∉ seen.toList → XL E ops Q rest { st with fr := upd st.fr d (.tup [.c (.bool true), .c es[j].1, x]), ob := upd st.ob ki (some (.lrec (itk b clock (seen.push es[j].2) clock) bi [])) })
    (h2 : (∀ y ∈ es, y.2 ∈ seen.toList) → XL E ops Q rest { st with fr := upd st.fr d (.tup [.c (.bool false)]) }) : XL E ops Q (o :: rest) st := by
  refine XL.any hg fun a w ρ hs => ?_
  obtain ⟨arr, g1, g2, g3, g4⟩ := hs.ob m _ hm
  have hl : arr.toList.length = cs.length := by simpa using g3
  obtain ⟨ai, i1, i2, i3, _⟩ := hs.ob ki _ hi
  obtain ⟨g, hg1, hev⟩ : ∃ g, ρ ki = some (.blk g) ∧ a.eval it = .pointer (some ⟨g, 0, .none⟩) := by
    have := hs.ev it
    rw [hx] at this
    exact this.ptr_inv
  rw [i1] at hg1
  injection hg1 with hg1
  injection hg1 with hg1
  subst hg1
  have hdl' := Nat.lt_of_succ_le (Nat.le_of_ble_eq_true hdl)
  rcases run_next_at (P := E.P) w o.type bi b clock last seen (pent es arr.toList).toArray clock i2 g2 (fun x hx => by
      obtain ⟨j, hj⟩ := List.mem_iff_getElem?.1 (show x ∈ pent es arr.toList by simpa using hx)
      simp only [pent, List.getElem?_zipWith] at hj
      cases he : es[j]? with
      | none => simp [he] at hj
      | some y =>
        cases hv : arr.toList[j]? with
        | none => rw [he, hv] at hj; cases hj
        | some v => rw [he, hv] at hj; injection hj with hj; subst hj; exact hlt y (List.mem_of_getElem? he)) hll with ⟨n1, n2⟩ | ⟨e, he, w1, hw1, n2⟩
  · refine ⟨.tuple #[.bool false], w, run_v ho (by rw [hev]; exact n2), _, ⟨ρ, ?_⟩, h2 fun y hy => ?_⟩
    · rw [hd]
      exact hs.put hdl' (.tup rfl fun i x hx => by
        cases i with
        | zero => injection hx with hx; subst hx; exact .c
        | succ i => simp at hx)
    · obtain ⟨j, hj⟩ := List.mem_iff_getElem?.1 hy
      have hjl : j < es.length := (List.getElem?_eq_some_iff.1 hj).1
      have hje : es[j] = y := (List.getElem?_eq_some_iff.1 hj).2
      have hp := pent_at (vs := arr.toList) (by omega) j hjl
      apply Classical.byContradiction
      intro hns
      have hmem : ({ key := es[j].1, val := arr.toList.getD j undef, born := es[j].2 } : MapEntry) ∈ (leftOf (pent es arr.toList).toArray seen).toList := by
        simp only [leftOf, Array.toList_filter, List.mem_filter]
        refine ⟨List.mem_of_getElem? hp, ?_⟩
        rw [hje]
        simpa using hns
      have : (leftOf (pent es arr.toList).toArray seen).toList = [] := by
        apply List.eq_nil_of_length_eq_zero
        simpa using n1
      rw [this] at hmem
      cases hmem
  · have he' : e ∈ pent es arr.toList ∧ e.born ∉ seen.toList := by
      simp only [leftOf, Array.toList_filter, List.mem_filter] at he
      exact ⟨he.1, by simpa using he.2⟩
    obtain ⟨j, hj⟩ := List.mem_iff_getElem?.1 he'.1
    have hjl : j < es.length := by
      have := (List.getElem?_eq_some_iff.1 hj).1
      rwa [pent_len (by omega)] at this
    rw [pent_at (by omega) j hjl] at hj
    injection hj with hj
    have hx' : cs[j]? = some cs[j] := List.getElem?_eq_getElem (by omega)
    refine ⟨.tuple #[.bool true, e.key, e.val], _, run_v ho (by rw [hev]; exact n2), _, ⟨ρ, ?_⟩, h1 j hjl cs[j] hx' (by have := he'.2; rw [← hj] at this; exact this)⟩
    have hs1 : SatR E st a w1 ρ := by rcases hw1 with rfl | rfl; exact hs; exact hs.drew
    have hb1 : w1.heap[bi]? = some (itk b clock seen last ai) := by rcases hw1 with rfl | rfl; exact i2; exact i2
    have hlt : bi < w1.heap.size := (Array.getElem?_eq_some_iff.1 hb1).1
    have hu : upd ρ ki (some (.blk bi)) = ρ := by
      funext j'
      by_cases hj' : j' = ki
      · subst hj'; rw [upd_same, i1]
      · rw [upd_other _ _ hj']
    have hs2 : SatR E { st with ob := upd st.ob ki (some (.lrec (itk b clock (seen.push es[j].2) clock) bi [])) } a (setBlock w1 bi (.mapIter (some b) clock (seen.push e.born) clock)) ρ := by
      have := hs1.turn (k := ki) (x := .blk bi) (o := .lrec (itk b clock (seen.push es[j].2) clock) bi []) (w' := setBlock w1 bi (.mapIter (some b) clock (seen.push e.born) clock)) (.inr (.inl i1))
        ⟨rfl, rfl, rfl, by simp [setBlock], fun b' _ hb => by
          have : b' ≠ bi := fun e => hb (by rw [i1, e]; rfl)
          simp [setBlock, Array.getElem?_setIfInBounds_ne (Ne.symm this)]⟩ (Nat.le_refl _) (fun b' hb => .inl (by rw [i1]; exact hb)) fun hG _ => by
          rw [hu]
          refine ⟨#[], i1, ?_, rfl, fun i x hx => by cases hx⟩
          rw [← hj]
          simp [setBlock, itk, hlt]
      rwa [hu] at this
    have h5 := g4 j cs[j] hx'
    have h6 : R (setBlock w1 bi (.mapIter (some b) clock (seen.push e.born) clock)) (E.good (setBlock w1 bi (.mapIter (some b) clock (seen.push e.born) clock)) ρ) ρ cs[j] (arr.getD j undef) := by
      obtain ⟨arr', g1', g2', g3', g4'⟩ := hs2.ob m _ (by
        show upd st.ob ki _ m = _
        rw [upd_other _ _ (fun e => by subst e; rw [hm] at hi; injection hi with hi; injection hi with hi _ _; have := congrFun hi #[]; simp [pmk, itk] at this)]
        exact hm)
      have : arr' = arr := by
        have hbm : w1.heap[b]? = some (pmk es clock arr) := by rcases hw1 with rfl | rfl; exact g2; exact g2
        have hne : b ≠ bi := fun e => by
          subst e
          rw [hbm] at hb1
          simp [pmk, itk] at hb1
        have h7 : (setBlock w1 bi (.mapIter (some b) clock (seen.push e.born) clock)).heap[b]? = some (pmk es clock arr) := by
          simp only [setBlock, Array.getElem?_setIfInBounds_ne (Ne.symm hne)]
          exact hbm
        rw [g2'] at h7
        injection h7 with h7
        simp only [pmk, Obj.map.injEq] at h7
        have h8 : pent es arr'.toList = pent es arr.toList := by simpa using h7.1
        have hl' : arr'.toList.length = cs.length := by simpa using g3'
        apply Array.ext'
        apply List.ext_getElem?
        intro i
        by_cases hi : i < es.length
        · have p1 := pent_at (vs := arr'.toList) (by omega) i hi
          have p2 := pent_at (vs := arr.toList) (by omega) i hi
          rw [h8, p2] at p1
          injection p1 with p1
          injection p1 with _ p1 _
          rw [List.getD_eq_getElem?_getD, List.getD_eq_getElem?_getD] at p1
          rw [List.getElem?_eq_getElem (by omega), List.getElem?_eq_getElem (by omega)] at p1 ⊢
          simpa using p1.symm
        · rw [List.getElem?_eq_none (by omega), List.getElem?_eq_none (by omega)]
      subst this
      exact g4' j cs[j] hx'
    rw [hd]
    subst hj
    refine hs2.put (x := .tup [.c (.bool true), .c es[j].1, cs[j]]) (v := .tuple #[.bool true, es[j].1, arr.toList.getD j undef]) hdl' (.tup rfl fun i x hx => ?_)
    match i with
    | 0 => injection hx with hx; subst hx; exact .c
    | 1 => simp at hx; subst hx; exact .c
    | 2 =>
      simp at hx
      subst hx
      have : arr.toList.getD j undef = arr.getD j undef := by simp [List.getD_eq_getElem?_getD]
      simpa [this] using h6
    | i + 3 => simp at hx
theorem XL.entry {it : Operand} {d m b bi clock last ki j : Nat} {es : List (Value × Nat)} {cs : List AV} {seen : Array Nat} {x : AV} (ho : o.op = .entry it) (hg : o.guard = none) (hd : o.dst = some d) (hdl : Nat.blt d st.nt = true)
    (hx : st.ev it = .ptr ki 0) (hj : j < es.length) (hi : st.ob ki = some (.lrec (itk b clock (seen.push es[j].2) clock) bi [])) (hm : st.ob m = some (.lrec (pmk es clock) b cs)) (hcs : cs.length = es.length) (hnb : (es.map (·.2)).Nodup) (hxj : cs[j]? = some x)
    (h : XL E ops Q rest { st with fr := upd st.fr d (.tup [.c es[j].1, x]) }) : XL E ops Q (o :: rest) st := by
  refine XL.any hg fun a w ρ hs => ?_
  obtain ⟨arr, g1, g2, g3, g4⟩ := hs.ob m _ hm
  have hl : arr.toList.length = cs.length := by simpa using g3
  obtain ⟨ai, i1, i2, i3, _⟩ := hs.ob ki _ hi
  obtain ⟨g, hg1, hev⟩ : ∃ g, ρ ki = some (.blk g) ∧ a.eval it = .pointer (some ⟨g, 0, .none⟩) := by
    have := hs.ev it
    rw [hx] at this
    exact this.ptr_inv
  rw [i1] at hg1
  injection hg1 with hg1
  injection hg1 with hg1
  subst hg1
  have hdl' := Nat.lt_of_succ_le (Nat.le_of_ble_eq_true hdl)
  have hp := pent_at (vs := arr.toList) (by omega) j hj
  have hr := run_entry_at (P := E.P) w bi b clock seen (pent es arr.toList).toArray clock { key := es[j].1, val := arr.toList.getD j undef, born := es[j].2 } i2 g2 (by simpa using List.mem_of_getElem? hp) (by simpa [pent_born (show arr.toList.length = es.length by omega)] using hnb)
  refine ⟨.tuple #[es[j].1, arr.toList.getD j undef], w, run_e ho (by rw [hev]; exact hr), _, ⟨ρ, ?_⟩, h⟩
  rw [hd]
  refine hs.put hdl' (.tup rfl fun i y hy => ?_)
  match i with
  | 0 => injection hy with hy; subst hy; exact .c
  | 1 =>
    simp at hy
    subst hy
    have := g4 j x hxj
    have h9 : arr.toList.getD j undef = arr.getD j undef := by simp [List.getD_eq_getElem?_getD]
    simpa [h9] using this
  | i + 2 => simp at hy
theorem XL.mapEntry (hT : TOk E.P T) {t kt et : Nat} {mx kx : Operand} {d m : Nat} {ti te : TI} {kk : KK} {zv v : Value} {dm : Value → Bool} {f : Value → AV} (ho : o.op = .mapEntry t mx kx) (hg : o.guard = none) (hd : o.dst = some d) (hdl : Nat.blt d st.nt = true)
    (ht : T.find t = some ti) (hkd : ti.kind = .map kt et) (hkk : keyKind T kt = some kk) (hte : T.find et = some te) (hz : zvSame zv te.zv = true) (hx : st.ev mx = .mp m) (hk : keyV (st.ev kx) = some v) (hv : kk.has v = true) (hm : st.ob m = some (.mapo kk zv dm f []))
    (h : ∀ n : Nat, XL E ops Q rest { st with fr := upd st.fr d (.tup [f v, .c (.int .i64 n)]), ob := upd st.ob m (some (.mapo kk zv (fun u => keyEq u v || dm u) f [(v, n)])) }) : XL E ops Q (o :: rest) st := by
  refine XL.any hg fun a w ρ hs => ?_
  have hmap : E.P.underlying t = some (.map kt et) := by have := (hT t ti ht).kind; rw [hkd] at this; exact this
  obtain ⟨g, es, clock, h1, h2, ⟨h3, h4⟩, h5, _⟩ := hs.ob m _ hm
  have hev : a.eval mx = .map (some g) := by
    have := hs.ev mx
    rw [hx] at this
    generalize a.eval mx = u at this
    cases this with | mp hk => rw [h1] at hk; injection hk with hk; injection hk with hk; rw [hk]
  have hek : a.eval kx = v := keyV_inv hk (hs.ev kx)
  have hdl' := Nat.lt_of_succ_le (Nat.le_of_ble_eq_true hdl)
  have hzv := zvSame_eq hz
  have fin : ∀ {es' : Array MapEntry} {clock' n : Nat} {val : Value}, (execOp a.eval o).run E.P w = .ok (.value (.tuple #[val, .int .i64 n])) { w with heap := w.heap.setIfInBounds g (.map es' clock') } → Go.MapKept.Stamped es' clock' → (∀ e ∈ es'.toList, kk.has e.key = true) →
      (∀ u r, kk.has u = true → Holds es.toList u r → Holds es'.toList u (bif keyEq u v then some (r.getD zv) else r)) → (∃ r, Holds es.toList v r ∧ val = r.getD zv) → (∃ e ∈ es'.toList, e.key = v ∧ e.born = n) →
      ∃ n w', (execOp a.eval o).run E.P w = .ok (.value n) w' ∧ ∃ st', Sat E st' (a.put o.dst n) w' ∧ XL E ops Q rest st' := by
    intro es' clock' n val hr hs1 hk1 hh1 hval hst
    have hset := hs.setMap (o := .mapo kk zv (fun u => keyEq u v || dm u) f [(v, n)]) (es' := es') (clock' := clock') h1 h2 fun w' hG hh => ⟨g, es', clock', h1, hh, ⟨hs1, hk1⟩, fun u hu => by
      obtain ⟨r, r1, r2, r3⟩ := h5 u hu
      refine ⟨_, hh1 u r hu r1, ?_, ?_⟩
      · cases hq : keyEq u v
        · simpa [hq] using r2
        · simp [hq]
      · cases hq : keyEq u v
        · simpa using r3.tr hG _ (Le.refl _)
        · simpa using r3.tr hG _ (Le.refl _), fun x hx => by
      rcases List.mem_singleton.1 hx with rfl
      exact hst⟩
    refine ⟨_, _, hr, _, ⟨ρ, ?_⟩, h n⟩
    rw [hd]
    refine hset.put hdl' (.tup rfl fun i x hx => ?_)
    match i with
    | 0 =>
      injection hx with hx
      subst hx
      obtain ⟨r, r1, rfl⟩ := hval
      obtain ⟨r', q1, q2, q3⟩ := h5 v hv
      have : r = r' := r1.fn h3.2.2 q1
      subst this
      have hG : ∀ b, E.good w ρ b → E.good { w with heap := w.heap.setIfInBounds g (.map es' clock') } ρ b ∧ ({ w with heap := w.heap.setIfInBounds g (.map es' clock') } : World).heap[b]? = w.heap[b]? := fun b hb =>
        ⟨⟨hb.1, by simpa using hb.2.1, hb.2.2⟩, (Go.MapKept.heap_set (o' := .map es' clock') h2).2 b fun e => hb.2.2 m _ h1 (by subst e; rfl)⟩
      exact q3.tr hG _ (Le.refl _)
    | 1 => simp at hx; subst hx; exact .c
    | i + 2 => simp at hx
  rcases keyFind hT hkk hv h4 w with ⟨q1, q2⟩ | ⟨j, e, q1, q2, q3⟩
  · refine fin (es' := es.push { key := v, val := te.zv, born := clock }) (clock' := clock + 1) (n := clock) (val := te.zv) ?_ (Go.MapKept.stamped_push h3 q2) ?_ ?_ ⟨none, .inl ⟨rfl, q2⟩, hzv.symm⟩ ⟨{ key := v, val := te.zv, born := clock }, by simp, rfl, rfl⟩
    · simp [execOp, ho, Instr.mapEntry, hev, hek, run_underlying hmap, Go.MapKept.run_getObj_map h2, keyCheck hT hkk hv, q1, (hT et te hte).run_zv w, Go.MapKept.run_setObj_map _ h2, Result.andThen, goInt]
    · intro x hx
      simp only [Array.toList_push, List.mem_append, List.mem_singleton] at hx
      rcases hx with hx | rfl
      · exact h4 x hx
      · exact hv
    · intro u r hu hr
      cases hq : keyEq u v with
      | true =>
        have := (keyEq_iff hu hv).1 hq
        subst this
        have : r = none := hr.fn h3.2.2 (.inl ⟨rfl, q2⟩)
        subst this
        exact .inr ⟨{ key := u, val := te.zv, born := clock }, by simp, rfl, by simp [hzv]⟩
      | false =>
        have hne : u ≠ v := fun e => by rw [(keyEq_iff hu hv).2 e] at hq; cases hq
        rcases hr with ⟨rfl, hr⟩ | ⟨e, he, hk, rfl⟩
        · refine .inl ⟨rfl, fun e he => ?_⟩
          simp only [Array.toList_push, List.mem_append, List.mem_singleton] at he
          rcases he with he | rfl
          · exact hr e he
          · exact fun h => hne h.symm
        · exact .inr ⟨e, by simp [he], hk, rfl⟩
  · have hj : es[j]? = some e := by simpa using q2
    have hsame : (es.modify j fun e => { e with key := v }) = es := by
      apply Array.ext_getElem?
      intro i
      simp only [Array.getElem?_modify]
      by_cases hij : j = i
      · subst hij
        simp [hj, ← q3]
      · simp [hij]
    have hem := List.mem_of_getElem? q2
    refine fin (es' := es) (clock' := clock) (n := e.born) (val := e.val) ?_ h3 h4 ?_ ⟨some e.val, .inr ⟨e, hem, q3, rfl⟩, rfl⟩ ⟨e, hem, q3, rfl⟩
    · simp [execOp, ho, Instr.mapEntry, hev, hek, run_underlying hmap, Go.MapKept.run_getObj_map h2, keyCheck hT hkk hv, q1, hj, q3, keyStays hv, hsame, Go.MapKept.run_setObj_map _ h2, Result.andThen, goInt]
    · intro u r hu hr
      cases hq : keyEq u v with
      | true =>
        have := (keyEq_iff hu hv).1 hq
        subst this
        have : r = some e.val := hr.fn h3.2.2 (.inr ⟨e, hem, q3, rfl⟩)
        subst this
        exact hr
      | false => exact hr
theorem XL.entryStore {t : TypeId} {mx sx vx : Operand} {m n : Nat} {kk : KK} {zv v : Value} {dm : Value → Bool} {f : Value → AV} {x : AV} {sn : List (Value × Nat)} (ho : o.op = .entryStore t mx sx vx) (hg : o.guard = none) (hd : o.dst = none)
    (hx : st.ev mx = .mp m) (hs : st.ev sx = .c (.int .i64 n)) (hvx : st.ev vx = x) (hv : kk.has v = true) (hm : st.ob m = some (.mapo kk zv dm f sn)) (hsn : (v, n) ∈ sn)
    (h : XL E ops Q rest { st with ob := upd st.ob m (some (.mapo kk zv dm (fun u => bif keyEq u v then x else f u) [])) }) : XL E ops Q (o :: rest) st := by
  intro a w ⟨ρ, hsat⟩
  refine wpListIn_step fun K hK => ?_
  rw [if_pos (by simp [Region.wanted, hg])]
  obtain ⟨g, es, clock, h1, h2, ⟨h3, h4⟩, h5, h6⟩ := hsat.ob m _ hm
  obtain ⟨e, he, hek, heb⟩ := h6 _ hsn
  dsimp only at hek heb
  have hev : a.eval mx = .map (some g) := by
    have := hsat.ev mx
    rw [hx] at this
    generalize a.eval mx = u at this
    cases this with | mp hk => rw [h1] at hk; injection hk with hk; injection hk with hk; rw [hk]
  have hes : a.eval sx = .int .i64 n := by have := hsat.ev sx; rw [hs] at this; exact this.c_inv
  have hrx := hsat.ev vx
  rw [hvx] at hrx
  generalize hqe : a.eval vx = q at hrx
  obtain ⟨j, hj⟩ := List.mem_iff_getElem?.1 he
  have hj' : es[j]? = some e := by simpa using hj
  have hjl : j < es.size := (Array.getElem?_eq_some_iff.1 hj').1
  have hidx : es.findIdx? (fun e => (e.born : Int) == (n : Int)) = some j := by
    rw [Array.findIdx?_eq_some_iff_getElem]
    refine ⟨hjl, ?_, fun i hi => ?_⟩
    · have : es[j] = e := (Array.getElem?_eq_some_iff.1 hj').2
      simp [this, heb]
    · have hi' : i < es.size := by omega
      intro hb
      have hb' : es[i].born = n := by have : (es[i].born : Int) = n := by simpa using hb
                                      omega
      have hn := h3.2.1
      have e1 : (es.toList.map (·.born))[i]? = some n := by simp [List.getElem?_map, hi', hb']
      have e2 : (es.toList.map (·.born))[j]? = some n := by simp [List.getElem?_map, hj', heb]
      have := (List.getElem?_inj (by simpa using hi') hn).1 (e1.trans e2.symm)
      omega
  have hget : ∀ i, (es.modify j fun e => { e with val := q }).toList[i]? = if i = j then some { e with val := q } else es.toList[i]? := by
    intro i
    simp only [Array.getElem?_toList, Array.getElem?_modify]
    by_cases hij : j = i
    · subst hij; simp [hj']
    · simp [hij, Ne.symm hij]
  have hrun : (execOp a.eval o).run E.P w = .ok .skip { w with heap := w.heap.setIfInBounds g (.map (es.modify j fun e => { e with val := q }) clock) } := by
    simp [execOp, ho, Instr.entryStore, hev, hes, hqe, Go.MapKept.run_getObj_map h2, asInt, asIntOf_int, hidx, Go.MapKept.run_setObj_map _ h2, Result.andThen]
  have hset := hsat.setMap (o := .mapo kk zv dm (fun u => bif keyEq u v then x else f u) []) (es' := es.modify j fun e => { e with val := q }) (clock' := clock) h1 h2 fun w' hG hh =>
    ⟨g, _, clock, h1, hh, ⟨Go.MapKept.stamped_modify h3 _ _ (fun _ _ => rfl) (fun _ _ _ => rfl), keys_modify h4 _ _ (fun _ _ => rfl)⟩, fun u hu => by
      obtain ⟨r, r1, r2, r3⟩ := h5 u hu
      cases hq : keyEq u v with
      | true =>
        have := (keyEq_iff hu hv).1 hq
        subst this
        have : r = some e.val := r1.fn h3.2.2 (.inr ⟨e, he, hek, rfl⟩)
        subst this
        exact ⟨some q, .inr ⟨{ e with val := q }, List.mem_of_getElem? (i := j) (by rw [hget j, if_pos rfl]), hek, rfl⟩, by simpa using r2, by simpa [hq] using hrx.tr hG _ (Le.refl _)⟩
      | false =>
        have hne : u ≠ v := fun e => by rw [(keyEq_iff hu hv).2 e] at hq; cases hq
        refine ⟨r, ?_, r2, by simpa [hq] using r3.tr hG _ (Le.refl _)⟩
        rcases r1 with ⟨rfl, r1⟩ | ⟨e1, he1, hk1, rfl⟩
        · refine .inl ⟨rfl, fun e' he' => ?_⟩
          obtain ⟨i, hi⟩ := List.mem_iff_getElem?.1 he'
          rw [hget i] at hi
          split at hi
          · injection hi with hi; subst hi; exact fun h => hne (h.symm.trans hek)
          · exact r1 e' (List.mem_of_getElem? hi)
        · obtain ⟨i, hi⟩ := List.mem_iff_getElem?.1 he1
          have hij : i ≠ j := by
            rintro rfl
            rw [hj] at hi
            injection hi with hi
            subst hi
            exact hne (hk1.symm.trans hek)
          exact .inr ⟨e1, List.mem_of_getElem? (i := i) (by rw [hget i, if_neg hij]; exact hi), hk1, rfl⟩, fun _ h => by cases h⟩
  refine wpIn_run hrun (fun _ e => by cases e) (hK _ _ (h _ _ ⟨ρ, ?_⟩))
  rw [hd]
  exact hset
end
end Go.Eng
end
section
namespace Go.Eng
open Go.Sort Go.Lib
section
variable {E : Env} {st : ST} {Q : Exit → ST → Prop} {T : TE} {ops : Array Oper} {rest : List Oper} {o1 o2 o3 o4 : Oper}
theorem step_value {a : Act} {w : World} {o : Oper} {n : Value} {k : List Oper} (hg : o.guard = none) (h1 : (execOp a.eval o).run E.P w = .ok (.value n) w) (h : wpListIn (FW E.rd) 0 E.P ops (Post E Q) k (a.put o.dst n) w) : wpListIn (FW E.rd) 0 E.P ops (Post E Q) (o :: k) a w := by
  refine wpListIn_step fun K hK => ?_
  rw [if_pos (by simp [Region.wanted, hg])]
  exact wpIn_run h1 (fun _ e => by cases e) (hK _ _ h)
theorem eval_put_same {a : Act} {d : Nat} {v : Value} (h : d < a.tmps.size) : (a.put (some d) v).eval (.tmp d) = v := by
  simp [Act.put, Act.eval, h]
theorem eval_put_other {a : Act} {d t : Nat} {v : Value} (h : t ≠ d) : (a.put (some d) v).eval (.tmp t) = a.eval (.tmp t) := by
  simp [Act.put, Act.eval, Array.getElem?_setIfInBounds_ne (Ne.symm h)]
theorem XL.fmt10 (hT : TOk E.P T) {x8 x1 : Operand} {d1 d2 d3 d4 t7 t k s e tv n u g : Nat} {kt : IntKind} {f : Nat → List AV} {b : Nat → UInt8} {ti te : TI} {tys : Array TypeId}
    (ho1 : o1.op = .move x8) (hg1 : o1.guard = none) (hd1 : o1.dst = some d1) (ho2 : o2.op = .slice t (.tmp t7) none (some (.tmp d1)) none) (hg2 : o2.guard = none) (hd2 : o2.dst = some d2)
    (ho3 : o3.op = .move x1) (hg3 : o3.guard = none) (hd3 : o3.dst = some d3) (ho4 : o4.op = .call { callee := .value (.func g), args := #[.tmp d2, .tmp d3], argTypes := tys }) (hg4 : o4.guard = none) (hd4 : o4.dst = some d4)
    (hne : (Nat.blt d1 st.nt && Nat.blt d2 st.nt && Nat.blt d3 st.nt && Nat.blt d4 st.nt && !Nat.beq t7 d1 && !Nat.beq d2 d3 && !Nat.beq t7 d2) = true) (hx1 : ∀ d, x1 = .tmp d → d ≠ d1 ∧ d ≠ d2)
    (ht : T.find t = some ti) (hk : ti.kind = .array 24 e) (hte : T.find e = some te) (hsz : te.size = 1)
    (h8 : st.ev x8 = .c (.int kt n)) (h7 : st.fr t7 = .vptr k s 1 0 0) (hu : st.ev x1 = .c (.int .u64 u)) (hob : st.ob k = some (.vec tv 1 s 24 f)) (hf : ∀ i, i < 24 → f i = [.c (.int .u8 (b i).toNat)]) (hn : n ≤ 24) (hnu : n = nDigits u) (hlt : u < 10 ^ n)
    (hF : FnOk E.P g) (hG : ∀ (blk cap : Nat) (d : Array UInt8) (w : World), Go.Sort.Holds (fun (b : UInt8) => Value.int .u8 (b.toNat : Int)) w blk 0 d → d.size = n → Calls E.P g #[.slice (some ⟨blk, 0, none⟩) n cap, .int .u64 u] w fun e w' =>
      e = .returned (.tuple #[]) ∧ ∃ (m v' : Nat) (dk : Array UInt8), w' = (putRow (fun (b : UInt8) => Value.int .u8 (b.toNat : Int)) w blk 0 dk).drewN m ∧ FmtInv n u 0 v' dk)
    (h : XL E ops Q rest { st with fr := upd (upd (upd (upd st.fr d1 .junk) d2 .junk) d3 .junk) d4 .junk, ob := upd st.ob k (some (.vec tv 1 s 24 (fun i => if i < n then [.c (.int .u8 ((decDigits u).getD i 0).toNat)] else f i))) }) : XL E ops Q (o1 :: o2 :: o3 :: o4 :: rest) st := by
  simp only [Bool.and_eq_true, Bool.not_eq_true'] at hne
  obtain ⟨⟨⟨⟨⟨⟨b1, b2⟩, b3⟩, b4⟩, n1⟩, n2⟩, n3⟩ := hne
  have l1 := Nat.lt_of_succ_le (Nat.le_of_ble_eq_true b1)
  have l2 := Nat.lt_of_succ_le (Nat.le_of_ble_eq_true b2)
  have l3 := Nat.lt_of_succ_le (Nat.le_of_ble_eq_true b3)
  have l4 := Nat.lt_of_succ_le (Nat.le_of_ble_eq_true b4)
  have n1' : t7 ≠ d1 := fun e => by subst e; rw [Nat.beq_refl] at n1; cases n1
  have n2' : d2 ≠ d3 := fun e => by subst e; rw [Nat.beq_refl] at n2; cases n2
  have n3' : t7 ≠ d2 := fun e => by subst e; rw [Nat.beq_refl] at n3; cases n3
  intro a w ⟨ρ, hs⟩
  obtain ⟨_, _, _, _, blk, cap, cur, ho', hk', hev7, _, hnc, hcm, hh, hcs, _, hcell⟩ := hs.live_vptr (by simp [live, hob]) (h7 ▸ hs.fr t7)
  rw [hob] at ho'
  injection ho' with ho'
  injection ho' with q1 q2 _ q4 q5
  subst q1 q2 q4 q5
  have e8 : a.eval x8 = .int kt n := by have := hs.ev x8; rw [h8] at this; exact this.c_inv
  have eu : a.eval x1 = .int .u64 u := by have := hs.ev x1; rw [hu] at this; exact this.c_inv
  have hev7' : a.eval (.tmp t7) = .pointer (some ⟨blk, 0, .none⟩) := by simpa [Act.eval] using hev7
  have hkd := (hT t ti ht).kind
  rw [hk] at hkd
  simp only [KindOk] at hkd
  have hso := (hT e te hte).run_sizeOf w
  -- the four operations
  refine step_value (n := .int kt n) hg1 (by simp [execOp, ho1, e8]) ?_
  have s1 : SatR E { st with fr := upd st.fr d1 .junk } (a.put o1.dst (.int kt n)) w ρ := by rw [hd1]; exact hs.put l1 .junk
  generalize hA1 : a.put o1.dst (.int kt n) = a1 at s1 ⊢
  have z1 : a1.eval (.tmp d1) = .int kt n := by rw [← hA1, hd1]; exact eval_put_same (by rw [hs.tsz]; exact l1)
  have z7 : a1.eval (.tmp t7) = .pointer (some ⟨blk, 0, .none⟩) := by rw [← hA1, hd1, eval_put_other n1']; exact hev7'
  refine step_value (n := .slice (some ⟨blk, 0, .none⟩) n 24) hg2 ?_ ?_
  · simp [execOp, ho2, z1, z7, Instr.sliceAt, run_underlying hkd, Instr.sureAddr, Instr.sliceBounds, Instr.sliceBound, asIntOf_int, show (n : Int) ≤ 24 by omega, hso, Result.andThen, Addr.add]
  have s2 : SatR E { st with fr := upd (upd st.fr d1 .junk) d2 .junk } (a1.put o2.dst (.slice (some ⟨blk, 0, .none⟩) n 24)) w ρ := by rw [hd2]; exact s1.put l2 .junk
  have zu : a1.eval x1 = .int .u64 u := by
    cases x1 with
    | tmp d => rw [← hA1, hd1, eval_put_other (hx1 d rfl).1]; exact eu
    | const v => exact eu
    | global g => exact eu
    | func f => exact eu
  have t1 : a1.tmps.size = st.nt := s1.tsz
  generalize hA2 : a1.put o2.dst (.slice (some ⟨blk, 0, .none⟩) n 24) = a2 at s2 ⊢
  have z2 : a2.eval (.tmp d2) = .slice (some ⟨blk, 0, .none⟩) n 24 := by rw [← hA2, hd2]; exact eval_put_same (by rw [t1]; exact l2)
  have zu2 : a2.eval x1 = .int .u64 u := by
    cases x1 with
    | tmp d => rw [← hA2, hd2, eval_put_other (hx1 d rfl).2]; exact zu
    | const v => exact zu
    | global g => exact zu
    | func f => exact zu
  refine step_value (n := .int .u64 u) hg3 (by simp [execOp, ho3, zu2]) ?_
  have s3 : SatR E { st with fr := upd (upd (upd st.fr d1 .junk) d2 .junk) d3 .junk } (a2.put o3.dst (.int .u64 u)) w ρ := by rw [hd3]; exact s2.put l3 .junk
  have t2 : a2.tmps.size = st.nt := s2.tsz
  generalize hA3 : a2.put o3.dst (.int .u64 u) = a3 at s3 ⊢
  have y2 : a3.eval (.tmp d2) = .slice (some ⟨blk, 0, .none⟩) n 24 := by rw [← hA3, hd3, eval_put_other n2']; exact z2
  have y3 : a3.eval (.tmp d3) = .int .u64 u := by rw [← hA3, hd3]; exact eval_put_same (by rw [t2]; exact l3)
  -- the call
  refine wpListIn_step fun K hK => ?_
  rw [if_pos (by simp [Region.wanted, hg4])]
  have hrun : (execOp a3.eval o4).run E.P w = .ok (.enter g #[.slice (some ⟨blk, 0, .none⟩) n 24, .int .u64 u]) w := by
    obtain ⟨fn, g1, g2, g3⟩ := hF
    have hbn : fn.body ≠ none := fun e => by rw [e] at g2; cases g2
    have hnm : fn.name ≠ "runtime.NumGoroutine" := by simpa using g3
    have ef : a3.eval (.func g) = .func (.func g) #[] #[] := rfl
    simp [execOp, ho4, resolve, ef, Deferred.ofValue, invoke, callFunc, g1, hnm, hbn, y2, y3]
  refine wpIn_run hrun (fun _ e => by cases e) ⟨(fun e => by cases e), Calls.fw ?_ _ _⟩
  have hbyte : ∀ i, i < 24 → cur.getD i undef = .int .u8 (b i).toNat := fun i hi => by
    have := hcell i 0 (.c (.int .u8 (b i).toNat)) hi (by rw [hf i hi]; rfl)
    simpa using this.c_inv
  have hdl : (Array.ofFn (n := n) fun i => b i.val).size = n := by simp
  refine (hG blk 24 (Array.ofFn (n := n) fun i => b i.val) w (fun j hj => ?_) hdl).mono ?_
  · rw [hdl] at hj
    have hj2 : j < cur.size := by omega
    constructor
    · have hb := hbyte j (by omega)
      simp only [World.cell?, hh, Nat.zero_add]
      rw [getElem!_pos _ j (by simpa using hj)]
      simp only [Array.getElem_ofFn]
      rw [← hb]
      simp [hj2]
    · simp [World.frozen?, hh]
  rintro e' w' ⟨rfl, m, v', dk, rfl, hinv⟩
  have hdk : dk.size = n := hinv.size
  have hrow : putRow (fun (b : UInt8) => Value.int .u8 (b.toNat : Int)) w blk 0 dk = w.setRow blk (putCells (fun (b : UInt8) => Value.int .u8 (b.toNat : Int)) 0 dk cur) := by
    simp only [putRow, mapBlock, World.setRow]
    congr 1
    apply Array.ext_getElem?
    intro i
    simp only [Array.getElem?_modify]
    by_cases hi : blk = i
    · subst hi; simp [hh, onCells]
    · simp [hi]
  have s4 := s3.writeRow (k := k) (e := tv) (sz := 1) (s := s) (n := 24) (f := f) (f' := fun i => if i < n then [.c (.int .u8 ((decDigits u).getD i 0).toNat)] else f i) (w' := putRow (fun (b : UInt8) => Value.int .u8 (b.toNat : Int)) w blk 0 dk) hob (fun i hi => by
      split
      · rfl
      · rw [hf i hi]; rfl) (fun g' cap' cur' hg' hh' _ _ _ => by
      rw [hk'] at hg'
      injection hg' with hg'
      injection hg' with _ hg'
      injection hg' with hg' _ _
      injection hg' with hg'
      injection hg' with hg' _ _
      subst hg'
      rw [hh] at hh'
      injection hh' with hh'
      injection hh' with hh' _ _
      subst hh'
      refine ⟨_, hrow, by simp [putCells], fun i j x hi hx => ?_⟩
      have hi2 : i < cur.size := by omega
      by_cases hin : i < n
      · rw [if_pos hin] at hx
        cases j with
        | succ j => cases hx
        | zero =>
          injection hx with hx
          subst hx
          have hdl2 : i < (decDigits u).length := by rw [decDigits_length]; omega
          have hr := row_is_numeral (u := u) (v' := v') (dk := dk) (by rw [← hnu]; exact hinv) i hdl2
          have : (putCells (fun (b : UInt8) => Value.int .u8 (b.toNat : Int)) 0 dk cur).getD (i * 1 + 0) undef = .int .u8 ((decDigits u).getD i 0).toNat := by
            simp only [putCells, Nat.mul_one, Nat.add_zero]
            rw [Array.getD_eq_getD_getElem?]
            simp [hi2, hdk, hin, hdl2, hr]
          rw [this]
          exact .c
      · rw [if_neg hin] at hx
        have : (putCells (fun (b : UInt8) => Value.int .u8 (b.toNat : Int)) 0 dk cur).getD (i * 1 + j) undef = cur.getD (i * 1 + j) undef := by
          rw [hf i hi] at hx
          cases j with
          | succ j => cases hx
          | zero =>
            simp only [putCells, Nat.mul_one, Nat.add_zero]
            rw [Array.getD_eq_getD_getElem?, Array.getD_eq_getD_getElem?]
            simp [hi2, hdk, hin]
        rw [this]
        exact hcell i j x hi hx) (by omega)
  have s5 := s4.called (w' := (putRow (fun (b : UInt8) => Value.int .u8 (b.toNat : Int)) w blk 0 dk).drewN m) ⟨rfl, rfl, rfl, Nat.le_refl _, fun _ _ _ => rfl, fun _ => by simp [World.drewN]⟩
  refine hK _ _ (h _ _ ⟨ρ, ?_⟩)
  rw [hd4]
  exact s5.put l4 .junk
end
end Go.Eng
end
section
namespace Go.Eng
open Go.Sort Go.Lib
theorem run_append_str_at {P : Program} {w : World} (t u ty e : TypeId) (i : TypeInfo) (ht : P.underlying t = some (.slice e)) (hu : P.underlying u = some .string) (hi : P.info? e = some i) (hz : i.zero = some (.int .u8 0))
    (hsize : i.size = 1) (hby : i.bytes = 1) (v : Value) (n : Nat) (xs : List Value) (hown : w.ownsRow 0 e 1 v n xs) (s : ByteArray) (hb : n + s.size ≤ 140737488355328) :
    ∃ v' w', (Builtin.append_ #[t, u] ty #[v, .string s]).run P w = .ok v' w' ∧ w'.ownsRow 0 e 1 v' (n + s.size) (xs ++ strCells s) ∧ w.grownBy w' v.ownBlock ∧ (v'.ownBlock = v.ownBlock ∨ ∀ b, v'.ownBlock = some b → w.heap.size ≤ b) := by
  obtain ⟨v', w', h1, h2, h3, _⟩ := run_append_own_string (P := P) (w := w) 0 t u ty e i ht hu hi hz hsize hby v n xs hown s (by simp only [maxLen]; omega) hb (Nat.zero_le _)
  refine ⟨v', w', h1, h2, h3, ?_⟩
  have hxl : xs.length = n := by simpa using hown.1
  rcases hown.2 with ⟨rfl, rfl⟩ | ⟨g, cap, cur, rfl, hbg, hg, hnc, hcm, hcs, htake⟩
  · by_cases hm : s.size = 0
    · left
      have hf := run_firstCells_string (P := P) (w := w) 1 s
      rw [hm] at hf
      have : (Builtin.append_ #[t, u] ty #[.slice none 0 0, .string s]).run P w = .ok (.slice none 0 0) w := by
        simp [Builtin.append_, run_underlying ht, run_underlying hu, sizeOf, typeInfo, hi, hsize, Builtin.lenOf, hm, hf]
      rw [this] at h1
      injection h1 with h1
      rw [← h1]
    · right
      have hr := run_append_nil_string (P := P) w t u ty e i (.int .u8 0) ht hu hi hz s (by omega) (by omega) (by rw [hby]; omega)
      rw [hr] at h1
      injection h1 with h1
      rw [← h1]
      intro b hb'
      simp [Value.ownBlock] at hb'
      omega
  · by_cases hroom : n + s.size ≤ cap
    · have hcs' : cur.size = cap := by simpa using hcs
      have hr := run_append_room_string (P := P) (w := w) t u ty e i ht hu hi hsize g n cap cur hg s hroom (by omega)
      rw [hr] at h1
      injection h1 with h1
      rw [← h1]
      exact .inl rfl
    · have holds : ∀ j u, xs[j]? = some u → w.cell? ((⟨g, 0, none⟩ : Addr).add j) = some u := hown.cells (g := g) rfl
      have hr := run_append_grow_string (P := P) (w := w) t u ty e i (.int .u8 0) ht hu hi hz ⟨g, 0, none⟩ n cap xs (by rw [hsize]; simpa using hxl) holds s (by omega) (by omega) (by rw [hby]; exact growslice_fits (by omega) (by omega))
      rw [hr] at h1
      injection h1 with h1
      rw [← h1]
      right
      intro b hb'
      simp [Value.ownBlock] at hb'
      omega
section
variable {E : Env} {st : ST} {Q : Exit → ST → Prop} {T : TE} {ops : Array Oper} {rest : List Oper} {o o1 o2 : Oper}
theorem step_valueW {a : Act} {w w' : World} {o : Oper} {n : Value} {k : List Oper} (hg : o.guard = none) (h1 : (execOp a.eval o).run E.P w = .ok (.value n) w') (h : wpListIn (FW E.rd) 0 E.P ops (Post E Q) k (a.put o.dst n) w') : wpListIn (FW E.rd) 0 E.P ops (Post E Q) (o :: k) a w := by
  refine wpListIn_step fun K hK => ?_
  rw [if_pos (by simp [Region.wanted, hg])]
  exact wpIn_run h1 (fun _ e => by cases e) (hK _ _ h)
def byteAt (b : ByteArray) (i : Nat) : List AV := [.c (.int .u8 (b.data.toList.getD i 0).toNat)]
theorem strCells_at (b : ByteArray) {i : Nat} (h : i < b.size) : (strCells b).getD i undef = .int .u8 (b.data.toList.getD i 0).toNat := by
  have h' : i < b.data.size := h
  simp [strCells, List.getD_eq_getElem?_getD, Array.getElem?_eq_getElem h']
structure ByteTy (T : TE) (t e : Nat) : Prop where
  s : ∃ ti, T.find t = some ti ∧ ti.kind = .slice e
  e : ∃ te, T.find e = some te ∧ te.kind = .int .u8 ∧ te.size = 1 ∧ te.bytes = 1 ∧ te.zero = [.int .u8 0]
theorem ByteTy.ok {t e : Nat} (h : ByteTy T t e) (hT : TOk E.P T) : E.P.underlying t = some (.slice e) ∧ E.P.underlying e = some (.int .u8) ∧ ∃ i, E.P.info? e = some i ∧ i.size = 1 ∧ i.bytes = 1 ∧ i.zero = some (.int .u8 0) := by
  obtain ⟨ti, h1, h2⟩ := h.s
  obtain ⟨te, h3, h4, h5, h6, h7⟩ := h.e
  have k1 := (hT t ti h1).kind
  rw [h2] at k1
  have k2 := (hT e te h3).kind
  rw [h4] at k2
  obtain ⟨i, z, g1, g2, g3, g4, g5⟩ := (hT e te h3).info
  obtain ⟨j, q1, q2⟩ := (hT e te h3).zvEq
  rw [g1] at q1
  injection q1 with q1
  subst q1
  refine ⟨k1, k2, i, g1, by rw [g2, h5], by rw [g3, h6], ?_⟩
  rw [q2]
  simp [TI.zv, h4, TK.agg, h7]
theorem XL.appendStr (hT : TOk E.P T) {sx x : Operand} {d k s n e t u : Nat} {f : Nat → List AV} {b : ByteArray} {tu : TI} (ho : o.op = .call { callee := .builtin .append, args := #[sx, x], argTypes := #[t, u] }) (hg : o.guard = none) (hd : o.dst = some d) (hdl : Nat.blt d st.nt = true)
    (ht : ByteTy T t e) (hu : T.find u = some tu) (huk : tu.kind = .string) (hs : st.ev sx = .vec k s) (hx : st.ev x = .c (.string b)) (hob : st.ob k = some (.vec e 1 s n f)) (hb : n + b.size ≤ 140737488355328)
    (h : XL E ops Q rest { st with fr := upd st.fr d (.vec k (s + 1)), ob := upd st.ob k (some (.vec e 1 (s + 1) (n + b.size) (catF n f (byteAt b)))) }) : XL E ops Q (o :: rest) st := by
  refine XL.any hg fun a w ρ hsat => ?_
  obtain ⟨k1, _, i, g1, g2, g3, g4⟩ := ht.ok hT
  have k2 := (hT u tu hu).kind
  rw [huk] at k2
  have ev1 := hsat.ev sx
  rw [hs] at ev1
  obtain ⟨_, _, _, _, xs, ho', hk', hown, hf0, hr0⟩ := hsat.live_vec (by simp [live, hob]) ev1
  rw [hob] at ho'
  injection ho' with ho'
  injection ho' with p1 p2 _ p4 p5
  subst p1 p2 p4 p5
  have ev2 := hsat.ev x
  rw [hx] at ev2
  have ev2 := ev2.c_inv
  obtain ⟨z, w', c1, c2, c3, c4⟩ := run_append_str_at (P := E.P) (w := w) t u o.type e i k1 k2 g1 g4 g2 g3 _ n xs hown b hb
  have hxl : xs.length = n := by simpa using hown.1
  refine ⟨z, w', by simp [execOp, ho, resolve, invoke, builtin, ev2, c1], _, ⟨upd ρ k (some (.hdr (s + 1) z)), ?_⟩, h⟩
  have s1 := hsat.grow (n' := n + b.size) (f' := catF n f (byteAt b)) hob (fun i hi => ?_) hk' c2 c3 (run_drawn _ c1) c4 (fun i j x hi hx => ?_)
  · rw [hd]
    exact s1.put (Nat.lt_of_succ_le (Nat.le_of_ble_eq_true hdl)) (.vec (upd_same _ _ _))
  · unfold catF
    cases hlt : Nat.blt i n with
    | true => exact hf0 i (Nat.lt_of_succ_le (Nat.le_of_ble_eq_true hlt))
    | false => rfl
  · unfold catF at hx
    cases hlt : Nat.blt i n with
    | true =>
      have hin : i < n := Nat.lt_of_succ_le (Nat.le_of_ble_eq_true hlt)
      rw [hlt, cond_true] at hx
      have hj : j < 1 := by
        have := (List.getElem?_eq_some_iff.1 hx).1
        rwa [hf0 i hin] at this
      have := hr0 i j x hin hx
      simpa [List.getD, List.getElem?_append_left (show i + j < xs.length by omega)] using this
    | false =>
      have hin : ¬ i < n := fun hh => by rw [show Nat.blt i n = true from Nat.ble_eq_true_of_le hh] at hlt; cases hlt
      rw [hlt, cond_false] at hx
      cases j with
      | succ j => cases hx
      | zero =>
        injection hx with hx
        subst hx
        have h1 := strCells_at b (i := i - n) (by omega)
        have : (xs ++ strCells b).getD (i * 1 + 0) undef = (strCells b).getD (i - n) undef := by
          simp [List.getD_eq_getElem?_getD, List.getElem?_append_right (show xs.length ≤ i by omega), hxl]
        rw [this, h1]
        exact .c
def litMk (e n : Nat) : Array Value → Obj := fun arr => .cells arr e (n, n + 1)
theorem XL.litBytes (hT : TOk E.P T) {t e d1 d2 len : Nat} {parts : Array (Nat × Operand)} {l : List AV} (ho1 : o1.op = .buildSlice t len parts) (hg1 : o1.guard = none) (hd1 : o1.dst = some d1) (ho2 : o2.op = .convert t t (.tmp d1)) (hg2 : o2.guard = none) (hd2 : o2.dst = some d2)
    (hne : (Nat.blt d1 st.nt && Nat.blt d2 st.nt) = true) (ht : ByteTy T t e) (hb : bsCells T st.ob t len (parts.toList.map fun p => (p.1, st.ev p.2)) = some (e, 1, l)) (_hks : AV.ksL (fun _ => false) l = true) (hn : st.ob (st.nx + d2) = none)
    (h : ∀ g, XL E ops Q rest { st with fr := upd (upd st.fr d1 .junk) d2 (.c (.slice (some ⟨g, 0, none⟩) len len)), ob := upd st.ob (st.nx + d2) (some (.lrec (litMk e len) g l)) }) : XL E ops Q (o1 :: o2 :: rest) st := by
  simp only [Bool.and_eq_true] at hne
  have l1 := Nat.lt_of_succ_le (Nat.le_of_ble_eq_true hne.1)
  have l2 := Nat.lt_of_succ_le (Nat.le_of_ble_eq_true hne.2)
  intro a w ⟨ρ, hs⟩
  obtain ⟨k1, k2, i, g1, g2, g3, g4⟩ := ht.ok hT
  obtain ⟨arr, b1, b2, b3, b4, b5⟩ := bs_run hT hs (e := st.ev) (fun p _ => hs.ev p.2) hb
  have hsz : arr.size = len := by omega
  refine step_valueW (n := .slice (some ⟨w.heap.size, 0, none⟩) len len) (w' := w.alloc (.cells arr e)) hg1 (by simp [execOp, ho1, b1]) ?_
  have z1 : (a.put o1.dst (.slice (some ⟨w.heap.size, 0, none⟩) len len)).eval (.tmp d1) = .slice (some ⟨w.heap.size, 0, none⟩) len len := by rw [hd1]; exact eval_put_same (by rw [hs.tsz]; exact l1)
  have hcv := run_convert_bytes_const (P := E.P) w t e arr len len k1 k2
  rw [hsz] at hcv
  refine step_valueW (n := .slice (some ⟨w.heap.size, 0, none⟩) len len) (w' := w.alloc (.cells arr e (len, len + 1))) hg2 (by simp only [execOp, ho2, z1]; simp [hcv]) ?_
  have hno := hs.no _ hn
  have s1 : SatR E { st with ob := upd st.ob (st.nx + d2) (some (.lrec (litMk e len) w.heap.size l)) } a (w.alloc (.cells arr e (len, len + 1))) (upd ρ (st.nx + d2) (some (.blk w.heap.size))) :=
    hs.turn (.inl hno) (by rw [hno]; exact World.grownBy_alloc w _ none) (Nat.le_refl _) (fun b hb => by injection hb with hb; subst hb; exact .inr (Nat.le_refl _)) fun hG hl =>
      ⟨arr, upd_same _ _ _, heap_alloc_new w _, b2, fun i x hx => (b5 i x hx).tr hG _ hl⟩
  refine h w.heap.size _ _ ⟨upd ρ (st.nx + d2) (some (.blk w.heap.size)), ?_⟩
  rw [hd1, hd2]
  exact (s1.put l1 .junk).put l2 .c
theorem XL.appendFull (hT : TOk E.P T) {sx x : Operand} {d e t g n m q : Nat} {cs : List AV} {f : Nat → List AV} (ho : o.op = .call { callee := .builtin .append, args := #[sx, x], argTypes := #[t, t] }) (hg : o.guard = none) (hd : o.dst = some d) (hdl : Nat.blt d st.nt = true)
    (ht : ByteTy T t e) (hs : st.ev sx = .c (.slice (some ⟨g, 0, none⟩) n n)) (hx : st.ev x = .rs 1 m f) (hq : st.ob q = some (.lrec (litMk e n) g cs)) (hcs : cs.length = n) (hks : AV.ksL (fun _ => false) cs = true) (hm : 0 < m) (hb : n + m ≤ 140737488355328) (hn : st.ob (st.nx + d) = none)
    (h : XL E ops Q rest { st with fr := upd st.fr d (.vec (st.nx + d) 0), ob := upd st.ob (st.nx + d) (some (.vec e 1 0 (n + m) (catF n (fun i => [cs.getD i .junk]) f))) }) : XL E ops Q (o :: rest) st := by
  refine XL.any hg fun a w ρ hsat => ?_
  obtain ⟨k1, _, i, g1, g2, g3, g4⟩ := ht.ok hT
  have ev1 := hsat.ev sx
  rw [hs] at ev1
  have ev1 := ev1.c_inv
  have ev2 := hsat.ev x
  rw [hx] at ev2
  obtain ⟨A, cap, hev, hnc, hcm, hl, hc⟩ := ev2.rs_inv
  obtain ⟨ad, rfl, hgd, hcc⟩ := hc hm
  obtain ⟨arr, r1, r2, r3, r4⟩ := hsat.ob q _ hq
  have hv : ∀ j, j < m → ∃ v, w.cell? (ad.add j) = some v ∧ R w (E.good w ρ) Rho.none ((f j).headD .junk) v := fun j hj => by
    have hlj := hl j hj
    obtain ⟨y, hy⟩ : ∃ y, f j = [y] := List.length_eq_one_iff.1 hlj
    obtain ⟨v, h1, h2⟩ := hcc j hj 0 y (by rw [hy]; rfl)
    rw [add_add, Nat.mul_one, Nat.add_zero] at h1
    exact ⟨v, h1, by rw [hy]; exact h2⟩
  let news : List Value := (List.range m).map fun j => (w.cell? (ad.add j)).getD undef
  have hnl : news.length = m := by simp [news]
  have hne : ∀ j v, news[j]? = some v → w.cell? (ad.add j) = some v := fun j v hj => by
    have hjm : j < m := by have := (List.getElem?_eq_some_iff.1 hj).1; omega
    simp only [news, List.getElem?_map, List.getElem?_range hjm, Option.map_some, Option.some.injEq] at hj
    obtain ⟨v', h1, _⟩ := hv j hjm
    rw [h1] at hj ⊢
    rw [Option.getD_some] at hj
    rw [hj]
  have holds : ∀ j v, arr.toList[j]? = some v → w.drew.cell? ((⟨g, 0, none⟩ : Addr).add j) = some v := fun j v hj => by
    rw [Addr.add_lit, Nat.zero_add]
    show w.cell? _ = _
    simp only [World.cell?, r2, litMk]
    simpa using hj
  have hr := run_append_grow (P := E.P) (w := w) t o.type e i (.int .u8 0) k1 g1 g4 ⟨g, 0, none⟩ n n arr.toList (by rw [g2]; simpa using r3.trans hcs) (fun j v hj => holds j v hj) ad m cap news (by rw [g2]; simpa using hnl) hne (by omega) (by omega) (by rw [g3]; exact growslice_fits (by omega) (by omega))
  have s1 := hsat.drew
  have hge := grownCap_ge w (n + m) n e
  have hcm2 : grownCap w (n + m) n e ≤ maxLen := grownCap_le_maxLen w (n + m) n e (by simp only [maxLen]; omega)
  have hasz : arr.size = n := r3.trans hcs
  have s2 := s1.allocRow (k := st.nx + d) (e := e) (sz := 1) (n := n + m) (cap := grownCap w (n + m) n e) (f := catF n (fun i => [cs.getD i .junk]) f) (arr := arr.toList.toArray ++ news.toArray ++ Builtin.zeroCells (Value.int .u8 0).cells (grownCap w (n + m) n e - (n + m))) hn hge hcm2 (by
      have hz1 : (Value.int IntKind.u8 0).cells.size = 1 := rfl
      simp only [Array.size_append, List.size_toArray, size_zeroCells, hz1, Array.length_toList, hasz, hnl]
      omega) (fun i hi => by
      unfold catF
      cases hlt : Nat.blt i n with
      | true => rfl
      | false =>
        have hin : ¬ i < n := fun hh => by rw [show Nat.blt i n = true from Nat.ble_eq_true_of_le hh] at hlt; cases hlt
        exact hl _ (by omega)) (fun i j x hi hx => by
      unfold catF at hx
      cases hlt : Nat.blt i n with
      | true =>
        have hin : i < n := Nat.lt_of_succ_le (Nat.le_of_ble_eq_true hlt)
        rw [hlt, cond_true] at hx
        cases j with
        | succ j => cases hx
        | zero =>
          injection hx with hx
          have hci : cs[i]? = some x := by rw [← hx]; simp [List.getD_eq_getElem?_getD, hcs, hin]
          have := (r4 i x hci).free (ρ' := Rho.none) (AV.ksL_at hks hci)
          have he : (arr.toList.toArray ++ news.toArray ++ Builtin.zeroCells (Value.int .u8 0).cells (grownCap w (n + m) n e - (n + m))).getD (i * 1 + 0) undef = arr.getD i undef := by
            simp [Array.getElem?_append, hasz, hin, hnl, show i < n + m by omega]
          rw [he]
          exact R.tr (w := w) (w' := w.drew) (G := E.good w ρ) (G' := E.good w.drew ρ) (fun b hb => ⟨hb, rfl⟩) this _ (Le.refl _)
      | false =>
        have hin : ¬ i < n := fun hh => by rw [show Nat.blt i n = true from Nat.ble_eq_true_of_le hh] at hlt; cases hlt
        rw [hlt, cond_false] at hx
        have hjm : i - n < m := by omega
        have hlj := hl (i - n) hjm
        obtain ⟨y, hy⟩ : ∃ y, f (i - n) = [y] := List.length_eq_one_iff.1 hlj
        rw [hy] at hx
        cases j with
        | succ j => cases hx
        | zero =>
          injection hx with hx
          obtain ⟨v, h1, h2⟩ := hv (i - n) hjm
          rw [hy, List.headD_cons, hx] at h2
          have he : (arr.toList.toArray ++ news.toArray ++ Builtin.zeroCells (Value.int .u8 0).cells (grownCap w (n + m) n e - (n + m))).getD (i * 1 + 0) undef = v := by
            have : news[i - n]? = some v := by simp [news, hjm, h1]
            simp [Array.getElem?_append, hasz, hin, hnl, hi, this]
            rw [if_pos hjm]; rfl
          rw [he]
          exact R.tr (w := w) (w' := w.drew) (G := E.good w ρ) (G' := E.good w.drew ρ) (fun b hb => ⟨hb, rfl⟩) h2 _ (Le.refl _))
  have hrun : (execOp a.eval o).run E.P w = ((Builtin.append_ #[t, t] o.type #[a.eval sx, a.eval x]).run E.P w).andThen fun v w' => .ok (.value v) w' := by simp [execOp, ho, resolve, invoke, builtin]
  rw [ev1, hev, hr] at hrun
  refine ⟨_, _, hrun, _, ⟨upd ρ (st.nx + d) (some (.hdr 0 (.slice (some ⟨w.drew.heap.size, 0, none⟩) (n + m) (grownCap w (n + m) n e)))), ?_⟩, h⟩
  rw [hd]
  exact s2.put (Nat.lt_of_succ_le (Nat.le_of_ble_eq_true hdl)) (.vec (upd_same _ _ _))
theorem XL.indexA (hT : TOk E.P T) {t n e d : Nat} {x i : Operand} {k : IntKind} {z : Int} {l : List AV} {ti te : TI} (ho : o.op = .index t x i) (hg : o.guard = none) (hd : o.dst = some d) (hdl : Nat.blt d st.nt = true)
    (ht : T.find t = some ti) (hk : ti.kind = .array n e) (he : T.find e = some te) (hs1 : te.size = 1) (hag : te.kind.agg = false) (hx : st.ev x = .agg l) (hi : st.ev i = .c (.int k z)) (hz : 0 ≤ z ∧ z < (n : Int)) (hl : l.length = n)
    (h : XL E ops Q rest { st with fr := upd st.fr d (l.getD z.toNat .junk) }) : XL E ops Q (o :: rest) st := by
  refine XL.any hg fun a w ρ hs => ?_
  have hv : indexVF T t (.agg l) (.c (.int k z)) = some ([0 ≤ z ∧ z < (n : Int)], l.getD z.toNat .junk) := by
    have hlt : z.toNat < l.length := by omega
    simp [indexVF, ht, hk, he, partF, hag, hs1, List.getElem?_eq_getElem hlt, List.getD_eq_getElem?_getD]
  have ev1 := hs.ev x
  rw [hx] at ev1
  have ev2 := hs.ev i
  rw [hi] at ev2
  obtain ⟨v, h1, h2⟩ := indexVF_ok hT hv (fun p hp => by rw [List.mem_singleton.1 hp]; exact hz) ev1 ev2
  refine ⟨v, w, by simp [execOp, ho, h1], _, ⟨ρ, ?_⟩, h⟩
  rw [hd]
  exact hs.put (Nat.lt_of_succ_le (Nat.le_of_ble_eq_true hdl)) h2
theorem XL.sliceOwn (hT : TOk E.P T) {t d k s e tv sz n m h : Nat} {x hi : Operand} {kk : IntKind} {f : Nat → List AV} {ti te : TI} (ho : o.op = .slice t x none (some hi) none) (hg : o.guard = none) (hd : o.dst = some d) (hdl : Nat.blt d st.nt = true)
    (ht : T.find t = some ti) (hk : ti.kind = .array n e) (he : T.find e = some te) (hsz : te.size = sz) (hx : st.ev x = .vptr k s sz 0 0) (hh : st.ev hi = .c (.int kk h)) (hob : st.ob k = some (.vec tv sz s n f)) (hN : E.N = m) (hm : Nat.ble m k = true) (hle : h ≤ n) (hn0 : 0 < n)
    (hr : XL E ops Q rest { st.frozen k s sz n f with fr := upd (st.frozen k s sz n f).fr d (.rs sz h f) }) : XL E ops Q (o :: rest) st := by
  refine XL.any hg fun a w ρ hs => ?_
  have ev1 := hs.ev x
  rw [hx] at ev1
  obtain ⟨_, _, _, _, blk, cap, cur, ho', hk', hev7, _, hnc, hcm, hhp, hcs, _, hcell⟩ := hs.live_vptr (by simp [live, hob]) ev1
  rw [hob] at ho'
  injection ho' with ho'
  injection ho' with q1 q2 _ q4 q5
  subst q1 q2 q4 q5
  have ev2 := hs.ev hi
  rw [hh] at ev2
  have ev2 := ev2.c_inv
  have hkd := (hT t ti ht).kind
  rw [hk] at hkd
  simp only [KindOk] at hkd
  have hso := (hT e te he).run_sizeOf w
  obtain ⟨ρ', s1, hsub⟩ := Sub.frozen hN hob hm a w ρ hs
  have hk0 : ρ' k = none := s1.no k (by simp [ST.frozen, upd_same])
  have hG : ∀ b, E.good w ρ b → E.good w ρ' b := fun b ⟨g1, g2, g3⟩ => ⟨g1, g2, fun j y hj => g3 j y (hsub j y hj)⟩
  have r1 : R w (E.good w ρ') ρ' (.rs sz n f) (.slice (some ⟨blk, 0, none⟩) n cap) := row_frozen hs hob (.vec hk') hG fun b hv g1 g2 j y hj hy => by
    have hjk : j ≠ k := fun e => by subst e; rw [hk0] at hj; cases hj
    exact hjk (hs.dis j k y _ b (hsub j y hj) g1 hy g2)
  refine ⟨.slice (some ⟨blk, 0, none⟩) h n, w, ?_, _, ⟨ρ', ?_⟩, hr⟩
  · simp at hev7
    simp [execOp, ho, ev2, hev7, Instr.sliceAt, run_underlying hkd, Instr.sureAddr, Instr.sliceBounds, Instr.sliceBound, asIntOf_int, show (h : Int) ≤ n by omega, hso, Result.andThen, Addr.add]
  · rw [hd]
    refine s1.put (Nat.lt_of_succ_le (Nat.le_of_ble_eq_true hdl)) ?_
    obtain ⟨A', cap', he', hn', hm', hf', hc'⟩ := r1.rs_inv
    injection he' with e1 _ e3
    subst e1 e3
    refine R.rs_mk (by omega) (by omega) (fun i hi => hf' _ (by omega)) fun h0 => ?_
    obtain ⟨ad, e4, hg4, hcc⟩ := hc' (by omega)
    exact ⟨ad, e4, hg4, fun i hi => hcc i (by omega)⟩
end
end Go.Eng
end
