/- The engine, part B: abstract states, when a frame and a world realise one, and how that is kept over new blocks, writes, appends and calls. -/
import Derived.Test.YtoeghbhlklnajaaEngA
namespace Go.Eng

def upd {α : Type} (f : Nat → α) (k : Nat) (v : α) : Nat → α := fun j => bif Nat.beq j k then v else f j
theorem upd_same {α : Type} (f : Nat → α) (k : Nat) (v : α) : upd f k v k = v := by simp [upd]
theorem upd_other {α : Type} (f : Nat → α) {k j : Nat} (v : α) (h : j ≠ k) : upd f k v j = f j := by
  have : Nat.beq j k = false := by
    cases hb : Nat.beq j k with
    | false => rfl
    | true => exact absurd (Nat.eq_of_beq_eq_true hb) h
  simp [upd, this]

/-- From w to w' nothing of what was there has turned but for blocks that meet M. -/
structure Keep (M : Nat → Prop) (w w' : World) : Prop where
  os : w'.os = w.os
  tape : w'.tape = w.tape
  output : w'.output = w.output
  size : w.heap.size ≤ w'.heap.size
  block : ∀ k, k < w.heap.size → ¬ M k → w'.heap[k]? = w.heap[k]?

theorem Keep.refl (M : Nat → Prop) (w : World) : Keep M w w := ⟨rfl, rfl, rfl, Nat.le_refl _, fun _ _ _ => rfl⟩
theorem Keep.trans {M : Nat → Prop} {a b c : World} (h : Keep M a b) (k : Keep M b c) : Keep M a c :=
  ⟨k.os.trans h.os, k.tape.trans h.tape, k.output.trans h.output, Nat.le_trans h.size k.size, fun i hi hm => (k.block i (Nat.lt_of_lt_of_le hi h.size) hm).trans (h.block i hi hm)⟩
theorem Keep.below {w w' : World} (h : Keep (fun _ => False) w w') : Go.RowKit.Below w.heap.size w w' := ⟨h.os, h.tape, h.output, h.size, fun k hk => h.block k hk id⟩
theorem Keep.of_below {w w' : World} (h : Go.RowKit.Below w.heap.size w w') : Keep (fun _ => False) w w' := ⟨h.os, h.tape, h.output, h.size, fun k hk _ => h.block k hk⟩

/-- What a walk is under: the program, the world at its start, the old blocks that may be written, and those that may be read. -/
structure Env where
  P : Program
  w0 : World
  M : Nat → Prop
  G0 : Nat → Prop
  /-- how many objects were lent, and where they lay -/
  N : Nat
  r0 : Rho

/-- An object of the call's own: a block of cells, or a row (or an array) of n elements of sz cells. -/
inductive Ob where
  | cells (t : TypeId) (cs : List AV)
  | vec (e sz s n : Nat) (f : Nat → List AV)

structure ST where
  fr : Nat → AV
  ob : Nat → Option Ob
  /-- the base of the names of new objects; a region's operation that writes slot d names its object nx + d -/
  nx : Nat
  /-- how many slots the frame has -/
  nt : Nat
  /-- the operations (by the slot that they write) that go the other way: arithmetic that wraps; a slice built that stays the call's own -/
  md : Nat → Bool

def Env.good (E : Env) (w : World) (ρ : Rho) (b : Nat) : Prop := (E.G0 b ∨ E.w0.heap.size ≤ b ∨ E.M b) ∧ b < w.heap.size ∧ ∀ k x, ρ k = some x → x.block ≠ some b

def ObOk (w : World) (G : Nat → Prop) (ρ : Rho) (k : Nat) : Ob → Prop
  | .cells t cs => ∃ g arr, ρ k = some (.blk g) ∧ w.heap[g]? = some (.cells arr t (0, 0)) ∧ arr.size = cs.length ∧ ∀ i x, cs[i]? = some x → R w G ρ x (arr.getD i undef)
  | .vec e sz s n f => ∃ hv xs, ρ k = some (.hdr s hv) ∧ w.ownsRow 0 e sz hv n xs ∧ (∀ i, i < n → (f i).length = sz) ∧ ∀ i j x, i < n → (f i)[j]? = some x → R w G Rho.none x (xs.getD (i * sz + j) undef)

structure SatR (E : Env) (st : ST) (a : Act) (w : World) (ρ : Rho) : Prop where
  keep : Keep E.M E.w0 w
  tsz : a.tmps.size = st.nt
  dfr : a.defers = []
  fr : ∀ k, R w (E.good w ρ) ρ (st.fr k) (a.tmps.getD k undef)
  ob : ∀ k o, st.ob k = some o → ObOk w (E.good w ρ) ρ k o
  no : ∀ k, st.ob k = none → ρ k = none
  dis : ∀ k k' x x' b, ρ k = some x → ρ k' = some x' → x.block = some b → x'.block = some b → k = k'
  own : ∀ k x b, ρ k = some x → x.block = some b → E.w0.heap.size ≤ b ∨ E.M b
  le : ∀ k, k < E.N → ∀ x, E.r0 k = some x → ρ k = some x ∨ ∃ s v s' v', x = .hdr s v ∧ ρ k = some (.hdr s' v') ∧ s < s'

def Sat (E : Env) (st : ST) (a : Act) (w : World) : Prop := ∃ ρ, SatR E st a w ρ

theorem ObOk.lt {w : World} {G : Nat → Prop} {ρ : Rho} {k : Nat} {o : Ob} (h : ObOk w G ρ k o) {x : RV} {b : Nat} (hx : ρ k = some x) (hb : x.block = some b) : b < w.heap.size := by
  cases o with
  | cells t cs =>
    obtain ⟨g, arr, hk, hh, _⟩ := h
    rw [hx] at hk
    injection hk with hk
    subst hk
    injection hb with hb
    subst hb
    exact (Array.getElem?_eq_some_iff.1 hh).1
  | vec e sz s n f =>
    obtain ⟨hv, xs, hk, hown, _⟩ := h
    rw [hx] at hk
    injection hk with hk
    subst hk
    exact (hown.lt b hb).2

theorem SatR.lt {E : Env} {st : ST} {a : Act} {w : World} {ρ : Rho} (h : SatR E st a w ρ) {k : Nat} {x : RV} {b : Nat} (hx : ρ k = some x) (hb : x.block = some b) : b < w.heap.size := by
  cases ho : st.ob k with
  | none => rw [h.no k ho] at hx; cases hx
  | some o => exact (h.ob k o ho).lt hx hb

/-- An object that lies where it lay, in a block that is as it was. -/
theorem ObOk.tr {w w' : World} {G G' : Nat → Prop} {ρ ρ' : Rho} {k : Nat} {o : Ob} (h : ObOk w G ρ k o) (hG : ∀ b, G b → G' b ∧ w'.heap[b]? = w.heap[b]?) (hl : Le ρ ρ')
    (hk : ρ' k = ρ k) (hb : ∀ x b, ρ k = some x → x.block = some b → w'.heap[b]? = w.heap[b]?) : ObOk w' G' ρ' k o := by
  cases o with
  | cells t cs =>
    obtain ⟨g, arr, hk', hh, hs, hr⟩ := h
    exact ⟨g, arr, hk.trans hk', (hb _ g hk' rfl).trans hh, hs, fun i x hx => (hr i x hx).tr hG _ hl⟩
  | vec e sz s n f =>
    obtain ⟨hv, xs, hk', hown, hf, hr⟩ := h
    refine ⟨hv, xs, hk.trans hk', ⟨hown.1, ?_⟩, hf, fun i j x hi hx => (hr i j x hi hx).tr hG _ (Le.refl _)⟩
    rcases hown.2 with hn | ⟨g, cap, cur, rfl, h0, hh, rest⟩
    · exact .inl hn
    · exact .inr ⟨g, cap, cur, rfl, h0, (hb _ g hk' rfl).trans hh, rest⟩

section
variable {E : Env} {st : ST} {a : Act} {w : World} {ρ : Rho}

/-- A value into a slot. -/
theorem SatR.put (h : SatR E st a w ρ) {d : Nat} {x : AV} {v : Value} (hd : d < st.nt) (hr : R w (E.good w ρ) ρ x v) : SatR E { st with fr := upd st.fr d x } (a.put (some d) v) w ρ := by
  refine ⟨h.keep, by simpa [Act.put] using h.tsz, h.dfr, fun k => ?_, h.ob, h.no, h.dis, h.own, h.le⟩
  by_cases hk : k = d
  · subst hk
    have hlt : k < a.tmps.size := h.tsz ▸ hd
    simpa [upd_same, Act.put, hlt] using hr
  · simp only [upd_other _ _ hk, Act.put]
    have h1 := h.fr k
    simpa [Array.getElem?_setIfInBounds_ne (Ne.symm hk)] using h1

/-- One object is made, or turned; all else stays. -/
theorem SatR.turn (h : SatR E st a w ρ) {w' : World} {k : Nat} {o : Ob} {x : RV}
    (hold : ρ k = none ∨ ρ k = some x ∨ ∃ s v s' v', ρ k = some (.hdr s v) ∧ x = .hdr s' v' ∧ s < s')
    (hw : w.grownBy w' ((ρ k).bind RV.block)) (hb : ∀ b, x.block = some b → (ρ k).bind RV.block = some b ∨ w.heap.size ≤ b)
    (hob : (∀ b, E.good w ρ b → E.good w' (upd ρ k (some x)) b ∧ w'.heap[b]? = w.heap[b]?) → Le ρ (upd ρ k (some x)) → ObOk w' (E.good w' (upd ρ k (some x))) (upd ρ k (some x)) k o) :
    SatR E { st with ob := upd st.ob k (some o) } a w' (upd ρ k (some x)) := by
  have hG : ∀ b, E.good w ρ b → E.good w' (upd ρ k (some x)) b ∧ w'.heap[b]? = w.heap[b]? := by
    intro b ⟨h0, hlt, hno⟩
    refine ⟨⟨h0, Nat.lt_of_lt_of_le hlt hw.size, fun j y hj hy => ?_⟩, hw.block b hlt fun e => ?_⟩
    · by_cases hjk : j = k
      · subst hjk
        rw [upd_same] at hj
        injection hj with hj
        subst hj
        rcases hb b hy with h1 | h1
        · cases hr : ρ j with
          | none => simp [hr] at h1
          | some z => rw [hr] at h1; exact hno j z hr h1
        · omega
      · rw [upd_other _ _ hjk] at hj
        exact hno j y hj hy
    · cases hr : ρ k with
      | none => simp [hr] at e
      | some z => rw [hr] at e; exact hno k z hr e.symm
  have hl : Le ρ (upd ρ k (some x)) := by
    intro j y hj
    by_cases hjk : j = k
    · subst hjk
      rw [upd_same]
      rcases hold with h1 | h1 | ⟨s, v, s', v', h1, h2, h3⟩
      · rw [h1] at hj; cases hj
      · rw [h1] at hj; injection hj with hj; subst hj; exact .inl rfl
      · rw [h1] at hj; injection hj with hj; exact .inr ⟨s, v, s', v', hj.symm, by rw [h2], h3⟩
    · rw [upd_other _ _ hjk]; exact .inl hj
  refine ⟨?_, h.tsz, h.dfr, fun j => (h.fr j).tr hG _ hl, fun j o' hj => ?_, fun j hj => ?_, fun j j' y y' b hj hj' hy hy' => ?_, fun j y b hj hy => ?_, fun j hj y hy => ?_⟩
  · refine ⟨hw.os.trans h.keep.os, hw.tape.trans h.keep.tape, hw.output.trans h.keep.output, Nat.le_trans h.keep.size hw.size, fun b hlt hm => ?_⟩
    rw [hw.block b (Nat.lt_of_lt_of_le hlt h.keep.size) ?_]
    · exact h.keep.block b hlt hm
    · intro e
      cases hr : ρ k with
      | none => simp [hr] at e
      | some z =>
        rw [hr] at e
        rcases h.own k z b hr e.symm with h1 | h1
        · omega
        · exact hm h1
  · by_cases hjk : j = k
    · subst hjk
      simp only [upd_same] at hj
      injection hj with hj
      subst hj
      exact hob hG hl
    · simp only [upd_other _ _ hjk] at hj
      refine (h.ob j o' hj).tr hG hl (upd_other _ _ hjk) fun y b hy hyb => hw.block b (h.lt hy hyb) fun e => ?_
      cases hr : ρ k with
      | none => simp [hr] at e
      | some z => rw [hr] at e; exact hjk (h.dis j k y z b hy hr hyb e.symm)
  · by_cases hjk : j = k
    · subst hjk; simp only [upd_same] at hj; cases hj
    · simp only [upd_other _ _ hjk] at hj ⊢; exact h.no j hj
  · have other : ∀ i y, i ≠ k → ρ i = some y → y.block = some b → x.block = some b → False := by
      intro i y hi hy hyb hxb
      rcases hb b hxb with h1 | h1
      · cases hr : ρ k with
        | none => simp [hr] at h1
        | some z => rw [hr] at h1; exact hi (h.dis i k y z b hy hr hyb h1)
      · have := h.lt hy hyb; omega
    by_cases h1 : j = k <;> by_cases h2 : j' = k
    · rw [h1, h2]
    · subst h1
      rw [upd_same] at hj
      injection hj with hj
      subst hj
      rw [upd_other _ _ h2] at hj'
      exact (other j' y' h2 hj' hy' hy).elim
    · subst h2
      rw [upd_same] at hj'
      injection hj' with hj'
      subst hj'
      rw [upd_other _ _ h1] at hj
      exact (other j y h1 hj hy hy').elim
    · rw [upd_other _ _ h1] at hj
      rw [upd_other _ _ h2] at hj'
      exact h.dis j j' y y' b hj hj' hy hy'
  · by_cases h1 : j = k
    · subst h1
      rw [upd_same] at hj
      injection hj with hj
      subst hj
      rcases hb b hy with h2 | h2
      · cases hr : ρ j with
        | none => simp [hr] at h2
        | some z => rw [hr] at h2; exact h.own j z b hr h2
      · exact .inl (Nat.le_trans h.keep.size h2)
    · rw [upd_other _ _ h1] at hj
      exact h.own j y b hj hy
  · rcases h.le j hj y hy with h1 | ⟨s, v, s', v', h1, h2, h3⟩
    · exact hl j y h1
    · rcases hl j _ h2 with h4 | ⟨s1, v1, s2, v2, h4, h5, h6⟩
      · exact .inr ⟨s, v, s', v', h1, h4, h3⟩
      · injection h4 with h4 h7
        exact .inr ⟨s, v, s2, v2, h1, h5, by omega⟩

/-- A new block of cells. -/
theorem SatR.alloc (h : SatR E st a w ρ) {k : Nat} {t : TypeId} {cs : List AV} {arr : Array Value} (hk : st.ob k = none) (hs : arr.size = cs.length)
    (hr : ∀ i x, cs[i]? = some x → R w (E.good w ρ) ρ x (arr.getD i undef)) :
    SatR E { st with ob := upd st.ob k (some (.cells t cs)) } a (w.alloc (.cells arr t)) (upd ρ k (some (.blk w.heap.size))) := by
  have hn := h.no k hk
  refine h.turn (.inl hn) (by rw [hn]; exact World.grownBy_alloc w _ none) (fun b hb => ?_) fun hG hl => ?_
  · injection hb with hb; subst hb; exact .inr (Nat.le_refl _)
  · exact ⟨w.heap.size, arr, upd_same _ _ _, heap_alloc_new w _, hs, fun i x hx => (hr i x hx).tr hG _ hl⟩

/-- A new row. -/
theorem SatR.allocRow (h : SatR E st a w ρ) {k : Nat} {e sz n cap : Nat} {f : Nat → List AV} {arr : Array Value} (hk : st.ob k = none) (hcap : n ≤ cap) (hm : cap ≤ maxLen) (hs : arr.size = cap * sz)
    (hf : ∀ i, i < n → (f i).length = sz) (hr : ∀ i j x, i < n → (f i)[j]? = some x → R w (E.good w ρ) Rho.none x (arr.getD (i * sz + j) undef)) :
    SatR E { st with ob := upd st.ob k (some (.vec e sz 0 n f)) } a (w.alloc (.cells arr e)) (upd ρ k (some (.hdr 0 (.slice (some ⟨w.heap.size, 0, none⟩) n cap)))) := by
  have hn := h.no k hk
  refine h.turn (.inl hn) (by rw [hn]; exact World.grownBy_alloc w _ none) (fun b hb => ?_) fun hG hl => ?_
  · simp [RV.block, Value.ownBlock] at hb; subst hb; exact .inr (Nat.le_refl _)
  · refine ⟨_, arr.toList.take (n * sz), upd_same _ _ _, ⟨?_, .inr ⟨w.heap.size, cap, arr, rfl, Nat.zero_le _, heap_alloc_new w _, hcap, hm, hs, rfl⟩⟩, hf, fun i j x hi hx => ?_⟩
    · have := Nat.mul_le_mul_right sz hcap
      simp only [List.length_take, Array.length_toList, hs]; omega
    · have hj : j < sz := by
        have := (List.getElem?_eq_some_iff.1 hx).1
        rw [hf i hi] at this; exact this
      have hij : i * sz + j < n * sz := by
        have : (i + 1) * sz ≤ n * sz := Nat.mul_le_mul_right sz hi
        rw [Nat.add_mul] at this; omega
      have := (hr i j x hi hx).tr hG _ (Le.refl _)
      simpa [List.getD, List.getElem?_take, hij] using this

/-- A call that turns nothing of what was there. -/
theorem SatR.called (h : SatR E st a w ρ) {w' : World} (hw : Keep (fun _ => False) w w') : SatR E st a w' ρ := by
  have hG : ∀ b, E.good w ρ b → E.good w' ρ b ∧ w'.heap[b]? = w.heap[b]? := fun b ⟨h0, hlt, hno⟩ => ⟨⟨h0, Nat.lt_of_lt_of_le hlt hw.size, hno⟩, hw.block b hlt id⟩
  refine ⟨?_, h.tsz, h.dfr, fun j => (h.fr j).tr hG _ (Le.refl _), fun j o hj => (h.ob j o hj).tr hG (Le.refl _) rfl fun y b hy hyb => hw.block b (h.lt hy hyb) id, h.no, h.dis, h.own, h.le⟩
  exact h.keep.trans ⟨hw.os, hw.tape, hw.output, hw.size, fun b hb _ => hw.block b hb id⟩

theorem SatR.drew (h : SatR E st a w ρ) : SatR E st a w.drew ρ := h.called ⟨rfl, rfl, rfl, Nat.le_refl _, fun _ _ _ => rfl⟩

/-- Writes into a block of cells. -/
theorem SatR.write (h : SatR E st a w ρ) {k : Nat} {t : TypeId} {cs cs' : List AV} (hk : st.ob k = some (.cells t cs)) (hlen : cs'.length = cs.length) {w' : World}
    (hw : ∀ g arr, ρ k = some (.blk g) → w.heap[g]? = some (.cells arr t (0, 0)) → arr.size = cs.length → (∀ i x, cs[i]? = some x → R w (E.good w ρ) ρ x (arr.getD i undef)) →
      ∃ arr' : Array Value, w' = w.setRow g arr' ∧ arr'.size = arr.size ∧ ∀ i x, cs'[i]? = some x → R w (E.good w ρ) ρ x (arr'.getD i undef)) :
    SatR E { st with ob := upd st.ob k (some (.cells t cs')) } a w' ρ := by
  obtain ⟨g, arr, hg, hh, hs, hr⟩ := h.ob k _ hk
  obtain ⟨arr', rfl, hs', hr'⟩ := hw g arr hg hh hs hr
  have hu : upd ρ k (some (.blk g)) = ρ := by
    funext j
    by_cases hj : j = k
    · subst hj; rw [upd_same, hg]
    · rw [upd_other _ _ hj]
  have := h.turn (k := k) (x := .blk g) (o := .cells t cs') (w' := w.setRow g arr') (.inr (.inl hg))
    ⟨rfl, rfl, rfl, by simp, fun b _ hb => setRow_other w g b _ fun e => hb (by rw [hg, e]; rfl)⟩ (fun b hb => .inl (by rw [hg]; exact hb)) fun hG hl => by
      rw [hu] at hG hl ⊢
      exact ⟨g, arr', hg, setRow_heap w g arr arr' t (0, 0) hh, by omega, fun i x hx => (hr' i x hx).tr hG _ hl⟩
  rwa [hu] at this

/-- Writes into a row: the elements turn, the header stays. -/
theorem SatR.writeRow (h : SatR E st a w ρ) {k : Nat} {e sz s n : Nat} {f f' : Nat → List AV} (hk : st.ob k = some (.vec e sz s n f)) (hf' : ∀ i, i < n → (f' i).length = sz) {w' : World}
    (hw : ∀ g cap cur, ρ k = some (.hdr s (.slice (some ⟨g, 0, none⟩) n cap)) → w.heap[g]? = some (.cells cur e (0, 0)) → n ≤ cap → cur.size = cap * sz →
      (∀ i j x, i < n → (f i)[j]? = some x → R w (E.good w ρ) Rho.none x (cur.getD (i * sz + j) undef)) →
      ∃ cur' : Array Value, w' = w.setRow g cur' ∧ cur'.size = cur.size ∧ ∀ i j x, i < n → (f' i)[j]? = some x → R w (E.good w ρ) Rho.none x (cur'.getD (i * sz + j) undef))
    (h0 : 0 < n) :
    SatR E { st with ob := upd st.ob k (some (.vec e sz s n f')) } a w' ρ := by
  obtain ⟨hv, xs, hg, hown, hf, hr⟩ := h.ob k _ hk
  rcases hown with ⟨hxl, ⟨_, rfl⟩ | ⟨g, cap, cur, rfl, _, hh, hnc, hm, hs, htake⟩⟩
  · omega
  have hcur : ∀ i j x, i < n → (f i)[j]? = some x → R w (E.good w ρ) Rho.none x (cur.getD (i * sz + j) undef) := by
    intro i j x hi hx
    have hj : j < sz := by
      have := (List.getElem?_eq_some_iff.1 hx).1
      rw [hf i hi] at this; exact this
    have hij : i * sz + j < n * sz := by
      have : (i + 1) * sz ≤ n * sz := Nat.mul_le_mul_right sz hi
      rw [Nat.add_mul] at this; omega
    have := hr i j x hi hx
    rw [← htake] at this
    simpa [List.getD, List.getElem?_take, hij] using this
  obtain ⟨cur', rfl, hs', hr'⟩ := hw g cap cur hg hh hnc hs hcur
  have hu : upd ρ k (some (.hdr s (.slice (some ⟨g, 0, none⟩) n cap))) = ρ := by
    funext j
    by_cases hj : j = k
    · subst hj; rw [upd_same, hg]
    · rw [upd_other _ _ hj]
  have := h.turn (k := k) (x := .hdr s (.slice (some ⟨g, 0, none⟩) n cap)) (o := .vec e sz s n f') (w' := w.setRow g cur') (.inr (.inl hg))
    ⟨rfl, rfl, rfl, by simp, fun b _ hb => setRow_other w g b _ fun e => hb (by rw [hg, e]; rfl)⟩ (fun b hb => .inl (by rw [hg]; exact hb)) fun hG hl => by
      rw [hu] at hG hl ⊢
      refine ⟨_, cur'.toList.take (n * sz), hg, ⟨?_, .inr ⟨g, cap, cur', rfl, Nat.zero_le _, setRow_heap w g cur cur' e (0, 0) hh, hnc, hm, by omega, rfl⟩⟩, hf', fun i j x hi hx => ?_⟩
      · have := Nat.mul_le_mul_right sz hnc
        simp only [List.length_take, Array.length_toList, hs', hs]; omega
      · have hj : j < sz := by
          have := (List.getElem?_eq_some_iff.1 hx).1
          rw [hf' i hi] at this; exact this
        have hij : i * sz + j < n * sz := by
          have : (i + 1) * sz ≤ n * sz := Nat.mul_le_mul_right sz hi
          rw [Nat.add_mul] at this; omega
        have := (hr' i j x hi hx).tr hG _ (Le.refl _)
        simpa [List.getD, List.getElem?_take, hij] using this
  rwa [hu] at this

/-- A row takes a later header. -/
theorem SatR.grow (h : SatR E st a w ρ) {k : Nat} {e sz s n n' : Nat} {f f' : Nat → List AV} (_hk : st.ob k = some (.vec e sz s n f)) (hf' : ∀ i, i < n' → (f' i).length = sz) {w' : World} {v' : Value} {hv : Value} {xs' : List Value}
    (hg : ρ k = some (.hdr s hv)) (hown : w'.ownsRow 0 e sz v' n' xs') (hw : w.grownBy w' hv.ownBlock) (hb : v'.ownBlock = hv.ownBlock ∨ ∀ b, v'.ownBlock = some b → w.heap.size ≤ b)
    (hr : ∀ i j x, i < n' → (f' i)[j]? = some x → R w (E.good w ρ) Rho.none x (xs'.getD (i * sz + j) undef)) :
    SatR E { st with ob := upd st.ob k (some (.vec e sz (s + 1) n' f')) } a w' (upd ρ k (some (.hdr (s + 1) v'))) := by
  refine h.turn (.inr (.inr ⟨s, hv, s + 1, v', hg, rfl, Nat.lt_succ_self s⟩)) (by rw [hg]; exact hw) (fun b hb' => ?_) fun hG hl => ?_
  · rw [hg]
    rcases hb with h1 | h1
    · exact .inl (h1.symm.trans hb')
    · exact .inr (h1 b hb')
  · exact ⟨v', xs', upd_same _ _ _, hown, hf', fun i j x hi hx => (hr i j x hi hx).tr hG _ (Le.refl _)⟩

/-- Slots and objects forgotten, or read as something that follows. -/
theorem SatR.cut (h : SatR E st a w ρ) {st' : ST} (p : Nat → Bool) (hnt : st'.nt = st.nt)
    (hfr : ∀ k, st'.fr k = .junk ∨ (st'.fr k = st.fr k ∧ (st.fr k).ks p = true))
    (hob : ∀ k o, st'.ob k = some o → p k = true) (hnp : ∀ k, st'.ob k = none → p k = false)
    (hobs : ∀ k o, st'.ob k = some o → (∃ t cs, o = .cells t cs ∧ st.ob k = some o ∧ AV.ksL p cs = true) ∨
      ∃ e sz s n f f', o = .vec e sz s n f' ∧ st.ob k = some (.vec e sz s n f) ∧ ∀ i, i < n → f' i = f i) (hN : ∀ k, k < E.N → p k = true) :
    SatR E st' a w (fun k => if p k then ρ k else none) := by
  have hG : ∀ b, E.good w ρ b → E.good w (fun k => if p k then ρ k else none) b ∧ w.heap[b]? = w.heap[b]? := fun b ⟨h0, hlt, hno⟩ =>
    ⟨⟨h0, hlt, fun j y hj hy => by
      cases hp : p j
      · simp [hp] at hj
      · simp [hp] at hj; exact hno j y hj hy⟩, rfl⟩
  have mv : ∀ {x v}, R w (E.good w ρ) ρ x v → x.ks p = true → R w (E.good w (fun k => if p k then ρ k else none)) (fun k => if p k then ρ k else none) x v :=
    fun hx hks => (hx.tr hG _ (Le.refl _)).cut p _ (fun k hk => by simp [hk]) hks
  refine ⟨h.keep, hnt ▸ h.tsz, h.dfr, fun k => ?_, fun k o ho => ?_, fun k hk => ?_, fun j j' y y' b hj hj' => ?_, fun j y b hj => ?_, fun j hj y hy => by simpa [hN j hj] using h.le j hj y hy⟩
  · rcases hfr k with h1 | ⟨h1, h2⟩
    · rw [h1]; exact .junk
    · rw [h1]; exact mv (h.fr k) h2
  · have hp := hob k o ho
    rcases hobs k o ho with ⟨t, cs, rfl, h1, h2⟩ | ⟨e, sz, s, n, f, f', rfl, h1, h2⟩
    · obtain ⟨g, arr, hk', hh, hs, hr⟩ := h.ob k _ h1
      exact ⟨g, arr, by simp [hp, hk'], hh, hs, fun i x hx => mv (hr i x hx) (AV.ksL_at h2 hx)⟩
    · obtain ⟨hv, xs, hk', hown, hf, hr⟩ := h.ob k _ h1
      exact ⟨hv, xs, by simp [hp, hk'], hown, fun i hi => by rw [h2 i hi]; exact hf i hi, fun i j x hi hx => ((hr i j x hi (by rw [← h2 i hi]; exact hx)).tr hG _ (Le.refl _))⟩
  · simp [hnp k hk]
  · cases hp : p j <;> cases hp' : p j' <;> simp [hp, hp'] at hj hj' ⊢
    exact h.dis j j' y y' b hj hj'
  · cases hp : p j <;> simp [hp] at hj ⊢
    exact h.own j y b hj

end
end Go.Eng
