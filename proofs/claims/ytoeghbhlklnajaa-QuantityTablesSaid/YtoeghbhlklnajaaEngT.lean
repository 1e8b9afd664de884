/- The engine, part T: what comes in, read as data, opened as values of Lean types. -/
import Derived.Test.YtoeghbhlklnajaaEngV
import Derived.ProofKit
import Derived.OpenShut
import Derived.ChangeOld
import Derived.Below
namespace Go.Eng
set_option linter.unnecessarySimpa false
open Go.WideShapes

/-- Cells that read as abstract values, out of memory that is there. -/
def Lies (w : World) (l : List AV) (cs : List Value) : Prop := cs.length = l.length ∧ ∀ i x, l[i]? = some x → R w (fun b => b < w.heap.size) Rho.none x (cs.getD i undef)

/-- How the cells of a Go type read as values of a Lean type. -/
structure Codec (P : Program) (t : Nat) (α : Type) where
  enc : α → List AV
  ok : α → Prop
  sz : Nat
  cells : P.cellsOf t = sz
  len : ∀ a, (enc a).length = sz
  open_ : ∀ {H : Type} {e : TypeId × Value → H} {w : World} {base : Nat} {spare : Nat → Bool} {held : Bool} {fuel : Nat} {cs : List Value} {x : DataW H × List MemPlace},
    DataW.trod e P w base spare held fuel t cs = some x → ∃ a, ok a ∧ Lies w (enc a) cs

theorem lies_one {w : World} {x : AV} {v : Value} (h : R w (fun b => b < w.heap.size) Rho.none x v) : Lies w [x] [v] :=
  ⟨rfl, fun i y hy => by
    match i with
    | 0 => simp at hy; subst hy; exact h
    | i + 1 => simp at hy⟩

theorem lies_app {w : World} {l l' : List AV} {cs cs' : List Value} (h : Lies w l cs) (h' : Lies w l' cs') : Lies w (l ++ l') (cs ++ cs') := by
  refine ⟨by simp [h.1, h'.1], fun i x hx => ?_⟩
  by_cases hi : i < l.length
  · rw [List.getElem?_append_left hi] at hx
    have := h.2 i x hx
    have hi' : i < cs.length := by rw [h.1]; exact hi
    simpa [List.getElem?_append_left hi'] using this
  · rw [List.getElem?_append_right (by omega)] at hx
    have := h'.2 _ x hx
    have hi' : cs.length ≤ i := by rw [h.1]; omega
    rw [← h.1] at this
    simpa [List.getElem?_append_right hi'] using this

theorem inK_of_wf {k : IntKind} {n : Int} (h : (Lit.int k n).wf = true) : inK k n := by
  cases k <;> simp only [Lit.wf, IntKind.min, IntKind.max, IntKind.signed, IntKind.bits, Bool.and_eq_true, decide_eq_true_eq, inK] at h ⊢ <;> simp at h <;> omega

section
variable {P : Program} {t : Nat} {α : Type}

def Codec.int (k : IntKind) (ht : P.underlying t = some (.int k)) (hc : P.cellsOf t = 1) : Codec P t Int :=
  { enc := fun n => [.c (.int k n)], ok := inK k, sz := 1, cells := hc, len := fun _ => rfl,
    open_ := fun h => by
      obtain ⟨n, rfl, _, hw⟩ := DataW.trod_int ht h
      exact ⟨n, inK_of_wf hw, lies_one .c⟩ }
def Codec.bool (ht : P.underlying t = some .bool) (hc : P.cellsOf t = 1) : Codec P t Bool :=
  { enc := fun n => [.c (.bool n)], ok := fun _ => True, sz := 1, cells := hc, len := fun _ => rfl,
    open_ := fun h => by
      obtain ⟨n, rfl, _⟩ := DataW.trod_bool ht h
      exact ⟨n, trivial, lies_one .c⟩ }
def Codec.str (ht : P.underlying t = some .string) (hc : P.cellsOf t = 1) : Codec P t ByteArray :=
  { enc := fun n => [.c (.string n)], ok := fun s => s.size ≤ maxLen, sz := 1, cells := hc, len := fun _ => rfl,
    open_ := fun h => by
      obtain ⟨n, rfl, _, hm⟩ := DataW.trod_string ht h
      exact ⟨n, hm, lies_one .c⟩ }

/-- The row that a list reads as. -/
def rowL [Inhabited α] (enc : α → List AV) (sz : Nat) (l : List α) : AV := .rs sz l.length (fun i => enc (l.getD i default))

theorem slice_opens [Inhabited α] {e : Nat} (c : Codec P e α) (ht : P.underlying t = some (.slice e)) (hpos : 0 < c.sz) {H : Type} {en : TypeId × Value → H} {w : World} {base : Nat} {spare : Nat → Bool} {held : Bool} {fuel : Nat} {cs : List Value} {x : DataW H × List MemPlace}
    (h : DataW.trod en P w base spare held fuel t cs = some x) : ∃ l : List α, (∀ a ∈ l, c.ok a) ∧ ∃ v, cs = [v] ∧ R w (fun b => b < w.heap.size) Rho.none (rowL c.enc c.sz l) v := by
  rcases DataW.trod_slice ht h with ⟨rfl, _⟩ | ⟨a, len, cap, elems, rest, n, rfl, rfl, _, hb, hl, hm, hel, hat, _, _⟩
  · refine ⟨[], (fun a h => by cases h), _, rfl, ?_⟩
    exact .rs (fun _ _ => undef) (Nat.le_refl _) (Nat.zero_le _) (fun h => absurd h (by simp)) (fun i hi => absurd hi (by simp)) (fun i j x hi => absurd hi (by simp))
  · have key : ∀ i, i < len → ∃ al, c.ok al ∧ ∃ ec, w.cells? base (a.add (i * c.sz)) c.sz = some ec ∧ Lies w (c.enc al) ec := by
      intro i hi
      have h1 := hat i hi
      rw [List.getElem?_eq_getElem (hel ▸ hi)] at h1
      rw [Option.bind_eq_some_iff] at h1
      obtain ⟨ec, h2, h3⟩ := h1
      obtain ⟨al, h4, h5⟩ := c.open_ h3
      rw [c.cells] at h2
      exact ⟨al, h4, ec, h2, h5⟩
    let f : Nat → α := fun i => if hi : i < len then (key i hi).choose else default
    have hf : ∀ i, i < len → c.ok (f i) ∧ ∃ ec, w.cells? base (a.add (i * c.sz)) c.sz = some ec ∧ Lies w (c.enc (f i)) ec := by
      intro i hi
      have : f i = (key i hi).choose := by simp only [f, dif_pos hi]
      rw [this]
      exact (key i hi).choose_spec
    have hg : ∀ i, i < len → ((List.range len).map f).getD i default = f i := by
      intro i hi
      simp [List.getElem?_map, List.getElem?_range hi]
    refine ⟨(List.range len).map f, ?_, _, rfl, ?_⟩
    · intro al hal
      obtain ⟨i, hi, rfl⟩ := List.mem_map.1 hal
      exact (hf i (by simpa using hi)).1
    · have hcell : ∀ i j, i < len → j < c.sz → ∃ v, w.cell? (a.add (i * c.sz + j)) = some v ∧ ∀ x, (c.enc (f i))[j]? = some x → R w (fun b => b < w.heap.size) Rho.none x v := by
        intro i j hi hj
        obtain ⟨_, ec, h2, h3⟩ := hf i hi
        obtain ⟨_, h5, h6⟩ := World.cells?_some h2
        have hlen : ec.length = c.sz := by rw [h3.1, c.len]
        have h7 := h6 j hj
        rw [add_add, List.getElem?_eq_getElem (by omega)] at h7
        refine ⟨ec[j], h7, fun x hx => ?_⟩
        have := h3.2 j x hx
        simpa [List.getElem?_eq_getElem (show j < ec.length by omega)] using this
      let val : Nat → Nat → Value := fun i j => if hh : i < len ∧ j < c.sz then (hcell i j hh.1 hh.2).choose else undef
      have hval : ∀ i j, i < len → j < c.sz → w.cell? (a.add (i * c.sz + j)) = some (val i j) ∧ ∀ x, (c.enc (f i))[j]? = some x → R w (fun b => b < w.heap.size) Rho.none x (val i j) := by
        intro i j hi hj
        have : val i j = (hcell i j hi hj).choose := by simp only [val, dif_pos (And.intro hi hj)]
        rw [this]
        exact (hcell i j hi hj).choose_spec
      have hblk : 0 < len → a.block < w.heap.size := by
        intro h0
        have := (hval 0 0 h0 hpos).1
        unfold World.cell? at this
        split at this
        · rename_i hh
          rw [block_add] at hh
          exact (Array.getElem?_eq_some_iff.1 hh).1
        · cases this
      unfold rowL
      rw [show ((List.range len).map f).length = len by simp]
      refine .rs val hl hm (fun h0 => ?_) (fun i hi => c.len _) (fun i j x hi hx => ?_)
      · refine ⟨a, rfl, hblk h0, fun i j hi hj => (hval i j hi hj).1⟩
      · have hi' : i < len := hi
        rw [hg i hi'] at hx
        have hj : j < c.sz := by
          rw [← c.len (f i)]
          exact (List.getElem?_eq_some_iff.1 hx).1
        exact (hval i j hi' hj).2 x hx

def Codec.slice [Inhabited α] {e : Nat} (c : Codec P e α) (ht : P.underlying t = some (.slice e)) (hpos : 0 < c.sz) (hc : P.cellsOf t = 1) : Codec P t (List α) :=
  { enc := fun l => [rowL c.enc c.sz l], ok := fun l => ∀ a ∈ l, c.ok a, sz := 1, cells := hc, len := fun _ => rfl,
    open_ := fun h => by
      obtain ⟨l, h1, v, rfl, h2⟩ := slice_opens c ht hpos h
      exact ⟨l, h1, lies_one h2⟩ }

/-- Another Lean type for the same cells. -/
def Codec.map {β : Type} (c : Codec P t α) (f : α → β) (enc : β → List AV) (ok : β → Prop) (h : ∀ a, enc (f a) = c.enc a) (hl : ∀ b, (enc b).length = c.sz) (hok : ∀ a, c.ok a → ok (f a)) : Codec P t β :=
  { enc := enc, ok := ok, sz := c.sz, cells := c.cells, len := hl,
    open_ := fun hh => by
      obtain ⟨a, h1, h2⟩ := c.open_ hh
      exact ⟨f a, hok a h1, by rw [h]; exact h2⟩ }

/-- The fields of a struct from the cell off on: their places and types. -/
structure FCodec (P : Program) (off : Nat) (fs : List (Nat × Nat)) (α : Type) where
  enc : α → List AV
  ok : α → Prop
  sz : Nat
  len : ∀ a, (enc a).length = sz
  open_ : ∀ {H : Type} {e : TypeId × Value → H} {w : World} {base : Nat} {spare : Nat → Bool} {held : Bool} {fuel : Nat} {cs : List Value}, off + sz ≤ cs.length →
    (∀ f ∈ fs, ∃ x, DataW.trod e P w base spare held fuel f.2 ((cs.drop f.1).take (P.cellsOf f.2)) = some x) → ∃ a, ok a ∧ Lies w (enc a) ((cs.drop off).take sz)

def FCodec.nil (P : Program) (off : Nat) : FCodec P off [] Unit :=
  { enc := fun _ => [], ok := fun _ => True, sz := 0, len := fun _ => rfl, open_ := fun _ _ => ⟨(), trivial, by simp [Lies]⟩ }
def FCodec.cons {off t : Nat} {fs : List (Nat × Nat)} {α β : Type} (c : Codec P t α) (r : FCodec P (off + c.sz) fs β) : FCodec P off ((off, t) :: fs) (α × β) :=
  { enc := fun x => c.enc x.1 ++ r.enc x.2, ok := fun x => c.ok x.1 ∧ r.ok x.2, sz := c.sz + r.sz, len := fun x => by simp [c.len, r.len],
    open_ := fun {H e w base spare held fuel cs} hlen hfs => by
      obtain ⟨x, hx⟩ := hfs (off, t) (by simp)
      rw [c.cells] at hx
      obtain ⟨a, h1, h2⟩ := c.open_ hx
      obtain ⟨b, h3, h4⟩ := r.open_ (cs := cs) (by omega) (fun g hg => hfs g (by simp [hg]))
      refine ⟨(a, b), ⟨h1, h3⟩, ?_⟩
      have : (cs.drop off).take (c.sz + r.sz) = (cs.drop off).take c.sz ++ (cs.drop (off + c.sz)).take r.sz := by
        rw [List.take_add, List.drop_drop]
      rw [this]
      exact lies_app h2 h4 }

theorem mapM_places {P : Program} : ∀ {fs : List Field} {pl : List (Nat × Nat)}, fs.mapM (fun f => (P.info? f.type).map fun i => (f.offset, i.size)) = some pl → pl.map (·.1) = fs.map (·.offset)
  | [], pl, h => by
    have : pl = [] := by simpa using h.symm
    subst this; rfl
  | f :: fs, pl, h => by
    rw [List.mapM_cons] at h
    cases hx : P.info? f.type with
    | none => simp [hx] at h
    | some i =>
      cases hxs : fs.mapM (fun f => (P.info? f.type).map fun i => (f.offset, i.size)) with
      | none => simp [hx, hxs] at h
      | some l =>
        simp [hx, hxs] at h
        subst h
        simp [mapM_places hxs]

def Codec.struct {pl : List (Nat × Nat)} {ty : List Nat} (hk : KindOk P t (.struct pl ty)) {fl : List (Nat × Nat)} (hfl : (pl.map (·.1)).zip ty = fl) (c : FCodec P 0 fl α) (hc : P.cellsOf t = c.sz) : Codec P t α :=
  { enc := c.enc, ok := c.ok, sz := c.sz, cells := hc, len := c.len,
    open_ := fun {H e w base spare held fuel cs x} h => by
      obtain ⟨fs, ht, hm, hty⟩ := hk
      obtain ⟨xs, n, rfl, _, hlen, hxs, hat⟩ := DataW.trod_struct ht h
      subst hfl
      have hl : cs.length = c.sz := hlen.trans hc
      obtain ⟨a, h1, h2⟩ := c.open_ (e := e) (w := w) (base := base) (spare := spare) (held := held) (fuel := n) (cs := cs) (by omega) (fun f hf => by
        rw [mapM_places hm, ← hty] at hf
        obtain ⟨i, hi, hi'⟩ := List.getElem_of_mem hf
        simp only [List.length_zip, List.length_map, Nat.min_self] at hi
        simp only [List.getElem_zip, List.getElem_map] at hi'
        have h3 := hat i fs.toList[i] (by simpa using List.getElem?_eq_getElem hi)
        rw [← hi']
        simp only
        rw [h3]
        have hlt : i < xs.length := by rw [hxs]; simpa using hi
        exact ⟨xs[i], List.getElem?_eq_getElem hlt⟩)
      refine ⟨a, h1, ?_⟩
      have : (cs.drop 0).take c.sz = cs := by simp [← hl]
      rw [this] at h2
      exact h2 }

/- Arguments. -/
theorem arg_one {base : Nat} {w : World} {v : Value} {H : Type} {en : TypeId × Value → H} {spare : Nat → Bool} {held : Bool} {d : DataW H} {p : List MemPlace} (c : Codec P t α) (x : α → AV) (hx : ∀ a, c.enc a = [x a])
    (hns : ∀ l, v ≠ .agg l) (h : DataW.Trod en P w base spare held t v d p) : ∃ a, c.ok a ∧ R w (fun b => b < w.heap.size) Rho.none (x a) v := by
  obtain ⟨fuel, hf⟩ := h
  rw [Value.cells_one hns] at hf
  obtain ⟨a, h1, h2⟩ := c.open_ hf
  rw [hx] at h2
  exact ⟨a, h1, by simpa using h2.2 0 (x a) rfl⟩

def oneKind (d : Option TypeDesc) : Bool := match d with
  | some (.int _) => true
  | some .bool => true
  | some .string => true
  | some (.slice _) => true
  | _ => false
theorem okWide_one {Q : Reach} {base : Nat} {w : World} {v : Value} (h : Value.okWide P w Q base t v) (hk : oneKind (P.underlying t) = true) : ∀ l, v ≠ .agg l := by
  intro l e
  subst e
  unfold oneKind at hk
  split at hk
  all_goals first | cases hk | skip
  all_goals
    rename_i hu
    simp only [Value.okWide, hu, Cell.okWide] at h
    simp [Cell.ok] at h
theorem arg_cell {Q : Reach} {base b0 : Nat} {w : World} {v : Value} {H : Type} {en : TypeId × Value → H} {spare : Nat → Bool} {held : Bool} {d : DataW H} {p : List MemPlace} (c : Codec P t α) (x : α → AV) (hx : ∀ a, c.enc a = [x a])
    (hk : oneKind (P.underlying t) = true) (hv : Value.okWide P w Q b0 t v) (h : DataW.Trod en P w base spare held t v d p) : ∃ a, c.ok a ∧ R w (fun b => b < w.heap.size) Rho.none (x a) v :=
  arg_one c x hx (okWide_one hv hk) h
theorem arg_agg {Q : Reach} {base b0 : Nat} {w : World} {v : Value} {H : Type} {en : TypeId × Value → H} {spare : Nat → Bool} {held : Bool} {d : DataW H} {p : List MemPlace} (c : Codec P t α) {fs : Array Field}
    (ht : P.underlying t = some (.struct fs)) (hv : Value.okWide P w Q b0 t v) (h : DataW.Trod en P w base spare held t v d p) : ∃ a, c.ok a ∧ R w (fun b => b < w.heap.size) Rho.none (.agg (c.enc a)) v := by
  simp only [Value.okWide, ht] at hv
  obtain ⟨cs, rfl, hsz, _⟩ := hv
  obtain ⟨fuel, hf⟩ := h
  obtain ⟨a, h1, h2⟩ := c.open_ hf
  simp only [Value.cells] at h2
  refine ⟨a, h1, .agg (by simpa using h2.1) fun i x hx => by simpa using h2.2 i x hx⟩
end

/-- A contract, taken at a world's arguments. -/
theorem Does.call {P : Program} {f : FuncId} {args : List AV} {res : AV} (h : Does P f args res) {w : World} {vs : Array Value} (hs : vs.size = args.length) (hr : ∀ i x, args[i]? = some x → R w (fun b => b < w.heap.size) Rho.none x (vs.getD i undef)) {Q : Ending → World → Prop}
    (hq : ∀ v w', Go.RowKit.Below w.heap.size w w' → R w' (fun _ => True) Rho.none res v → Q (.returned v) w') : Calls P f vs w Q := by
  refine (h.2 w (fun b => b < w.heap.size) vs hs (fun _ h => h) hr).mono ?_
  rintro e w' ⟨v, rfl, hk, hv⟩
  exact hq v w' hk.below (hv.tr (fun _ _ => ⟨trivial, rfl⟩) _ (Le.refl _))
end Go.Eng
