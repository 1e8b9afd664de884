import Derived.Test.YtlhmgphgnedlkaaGreatZz10
import Derived.ProofKit
import Derived.OpenShut
import Derived.ChangeOld
import Derived.Below
import Derived.Test.YtlhmgphgnedlkaaGreatZz12
import Derived.Test.YtlhmgphgnedlkaaGreatZz9
import Derived.Test.YtlhmgphgnedlkaaGreatTys
import Derived.KernelRfl
import Derived.Lib.Mul64
import Derived.Laws.Bits64b
section
/- The engine, part T: what comes in, read as data, opened as values of Lean types. -/
namespace Go.Eng
set_option linter.unnecessarySimpa false
open Go.WideShapes
def Lies (w : World) (l : List AV) (cs : List Value) : Prop := cs.length = l.length ∧ ∀ i x, l[i]? = some x → R w (fun b => b < w.heap.size) Rho.none x (cs.getD i undef)
structure Codec (P : Program) (t : Nat) (α : Type) where
  enc : α → List AV
  ok : α → Prop
  sz : Nat
  cells : P.cellsOf t = sz
  len : ∀ a, (enc a).length = sz
  open_ : ∀ {H : Type} {e : TypeId × Value → H} {w : World} {base : Nat} {spare : Nat → Bool} {held : Bool} {fuel : Nat} {cs : List Value} {x : DataW H × List MemPlace},
    DataW.trod e P w base spare held fuel t cs = some x → ∃ a, ok a ∧ Lies w (enc a) cs
theorem lies_one {w : World} {x : AV} {v : Value} (h : R w (fun b => b < w.heap.size) Rho.none x v) : Lies w [x] [v] :=
  ⟨rfl, fun i y hy => by
    match i with
    | 0 => simp at hy; subst hy; exact h
    | i + 1 => simp at hy⟩
theorem lies_app {w : World} {l l' : List AV} {cs cs' : List Value} (h : Lies w l cs) (h' : Lies w l' cs') : Lies w (l ++ l') (cs ++ cs') := by
  refine ⟨by simp [h.1, h'.1], fun i x hx => ?_⟩
  by_cases hi : i < l.length
  · rw [List.getElem?_append_left hi] at hx
    have := h.2 i x hx
    have hi' : i < cs.length := by rw [h.1]; exact hi
    simpa [List.getElem?_append_left hi'] using this
  · rw [List.getElem?_append_right (by omega)] at hx
    have := h'.2 _ x hx
    have hi' : cs.length ≤ i := by rw [h.1]; omega
    rw [← h.1] at this
    simpa [List.getElem?_append_right hi'] using this
theorem inK_of_wf {k : IntKind} {n : Int} (h : (Lit.int k n).wf = true) : inK k n := by
  cases k <;> simp only [Lit.wf, IntKind.min, IntKind.max, IntKind.signed, IntKind.bits, Bool.and_eq_true, decide_eq_true_eq, inK] at h ⊢ <;> simp at h <;> omega
section
variable {P : Program} {t : Nat} {α : Type}
def Codec.int (k : IntKind) (ht : P.underlying t = some (.int k)) (hc : P.cellsOf t = 1) : Codec P t Int :=
  { enc := fun n => [.c (.int k n)], ok := inK k, sz := 1, cells := hc, len := fun _ => rfl,
    open_ := fun h => by
      obtain ⟨n, rfl, _, hw⟩ := DataW.trod_int ht h
      exact ⟨n, inK_of_wf hw, lies_one .c⟩ }
def Codec.bool (ht : P.underlying t = some .bool) (hc : P.cellsOf t = 1) : Codec P t Bool :=
  { enc := fun n => [.c (.bool n)], ok := fun _ => True, sz := 1, cells := hc, len := fun _ => rfl,
    open_ := fun h => by
      obtain ⟨n, rfl, _⟩ := DataW.trod_bool ht h
      exact ⟨n, trivial, lies_one .c⟩ }
def Codec.str (ht : P.underlying t = some .string) (hc : P.cellsOf t = 1) : Codec P t ByteArray :=
  { enc := fun n => [.c (.string n)], ok := fun s => s.size ≤ maxLen, sz := 1, cells := hc, len := fun _ => rfl,
    open_ := fun h => by
      obtain ⟨n, rfl, _, hm⟩ := DataW.trod_string ht h
      exact ⟨n, hm, lies_one .c⟩ }
def rowL [Inhabited α] (enc : α → List AV) (sz : Nat) (l : List α) : AV := .rs sz l.length (fun i => enc (l.getD i default))
theorem slice_opens [Inhabited α] {e : Nat} (c : Codec P e α) (ht : P.underlying t = some (.slice e)) (hpos : 0 < c.sz) {H : Type} {en : TypeId × Value → H} {w : World} {base : Nat} {spare : Nat → Bool} {held : Bool} {fuel : Nat} {cs : List Value} {x : DataW H × List MemPlace}
    (h : DataW.trod en P w base spare held fuel t cs = some x) : ∃ l : List α, (∀ a ∈ l, c.ok a) ∧ ∃ v, cs = [v] ∧ R w (fun b => b < w.heap.size) Rho.none (rowL c.enc c.sz l) v := by
  rcases DataW.trod_slice ht h with ⟨rfl, _⟩ | ⟨a, len, cap, elems, rest, n, rfl, rfl, _, hb, hl, hm, hel, hat, _, _⟩
  · refine ⟨[], (fun a h => by cases h), _, rfl, ?_⟩
    exact .rs (fun _ _ => undef) (Nat.le_refl _) (Nat.zero_le _) (fun h => absurd h (by simp)) (fun i hi => absurd hi (by simp)) (fun i j x hi => absurd hi (by simp))
  · have key : ∀ i, i < len → ∃ al, c.ok al ∧ ∃ ec, w.cells? base (a.add (i * c.sz)) c.sz = some ec ∧ Lies w (c.enc al) ec := by
      intro i hi
      have h1 := hat i hi
      rw [List.getElem?_eq_getElem (hel ▸ hi)] at h1
      rw [Option.bind_eq_some_iff] at h1
      obtain ⟨ec, h2, h3⟩ := h1
      obtain ⟨al, h4, h5⟩ := c.open_ h3
      rw [c.cells] at h2
      exact ⟨al, h4, ec, h2, h5⟩
    let f : Nat → α := fun i => if hi : i < len then (key i hi).choose else default
    have hf : ∀ i, i < len → c.ok (f i) ∧ ∃ ec, w.cells? base (a.add (i * c.sz)) c.sz = some ec ∧ Lies w (c.enc (f i)) ec := by
      intro i hi
      have : f i = (key i hi).choose := by simp only [f, dif_pos hi]
      rw [this]
      exact (key i hi).choose_spec
    have hg : ∀ i, i < len → ((List.range len).map f).getD i default = f i := by
      intro i hi
      simp [List.getElem?_map, List.getElem?_range hi]
    refine ⟨(List.range len).map f, ?_, _, rfl, ?_⟩
    · intro al hal
      obtain ⟨i, hi, rfl⟩ := List.mem_map.1 hal
      exact (hf i (by simpa using hi)).1
    · have hcell : ∀ i j, i < len → j < c.sz → ∃ v, w.cell? (a.add (i * c.sz + j)) = some v ∧ ∀ x, (c.enc (f i))[j]? = some x → R w (fun b => b < w.heap.size) Rho.none x v := by
        intro i j hi hj
        obtain ⟨_, ec, h2, h3⟩ := hf i hi
        obtain ⟨_, h5, h6⟩ := World.cells?_some h2
        have hlen : ec.length = c.sz := by rw [h3.1, c.len]
        have h7 := h6 j hj
        rw [add_add, List.getElem?_eq_getElem (by omega)] at h7
        refine ⟨ec[j], h7, fun x hx => ?_⟩
        have := h3.2 j x hx
        simpa [List.getElem?_eq_getElem (show j < ec.length by omega)] using this
      let val : Nat → Nat → Value := fun i j => if hh : i < len ∧ j < c.sz then (hcell i j hh.1 hh.2).choose else undef
      have hval : ∀ i j, i < len → j < c.sz → w.cell? (a.add (i * c.sz + j)) = some (val i j) ∧ ∀ x, (c.enc (f i))[j]? = some x → R w (fun b => b < w.heap.size) Rho.none x (val i j) := by
        intro i j hi hj
        have : val i j = (hcell i j hi hj).choose := by simp only [val, dif_pos (And.intro hi hj)]
        rw [this]
        exact (hcell i j hi hj).choose_spec
      have hblk : 0 < len → a.block < w.heap.size := by
        intro h0
        have := (hval 0 0 h0 hpos).1
        unfold World.cell? at this
        split at this
        · rename_i hh
          rw [block_add] at hh
          exact (Array.getElem?_eq_some_iff.1 hh).1
        · cases this
      unfold rowL
      rw [show ((List.range len).map f).length = len by simp]
      refine .rs val hl hm (fun h0 => ?_) (fun i hi => c.len _) (fun i j x hi hx => ?_)
      · refine ⟨a, rfl, hblk h0, fun i j hi hj => (hval i j hi hj).1⟩
      · have hi' : i < len := hi
        rw [hg i hi'] at hx
        have hj : j < c.sz := by
          rw [← c.len (f i)]
          exact (List.getElem?_eq_some_iff.1 hx).1
        exact (hval i j hi' hj).2 x hx
def Codec.slice [Inhabited α] {e : Nat} (c : Codec P e α) (ht : P.underlying t = some (.slice e)) (hpos : 0 < c.sz) (hc : P.cellsOf t = 1) : Codec P t (List α) :=
  { enc := fun l => [rowL c.enc c.sz l], ok := fun l => ∀ a ∈ l, c.ok a, sz := 1, cells := hc, len := fun _ => rfl,
    open_ := fun h => by
      obtain ⟨l, h1, v, rfl, h2⟩ := slice_opens c ht hpos h
      exact ⟨l, h1, lies_one h2⟩ }
def Codec.map {β : Type} (c : Codec P t α) (f : α → β) (enc : β → List AV) (ok : β → Prop) (h : ∀ a, enc (f a) = c.enc a) (hl : ∀ b, (enc b).length = c.sz) (hok : ∀ a, c.ok a → ok (f a)) : Codec P t β :=
  { enc := enc, ok := ok, sz := c.sz, cells := c.cells, len := hl,
    open_ := fun hh => by
      obtain ⟨a, h1, h2⟩ := c.open_ hh
      exact ⟨f a, hok a h1, by rw [h]; exact h2⟩ }
structure FCodec (P : Program) (off : Nat) (fs : List (Nat × Nat)) (α : Type) where
  enc : α → List AV
  ok : α → Prop
  sz : Nat
  len : ∀ a, (enc a).length = sz
  open_ : ∀ {H : Type} {e : TypeId × Value → H} {w : World} {base : Nat} {spare : Nat → Bool} {held : Bool} {fuel : Nat} {cs : List Value}, off + sz ≤ cs.length →
    (∀ f ∈ fs, ∃ x, DataW.trod e P w base spare held fuel f.2 ((cs.drop f.1).take (P.cellsOf f.2)) = some x) → ∃ a, ok a ∧ Lies w (enc a) ((cs.drop off).take sz)
def FCodec.nil (P : Program) (off : Nat) : FCodec P off [] Unit :=
  { enc := fun _ => [], ok := fun _ => True, sz := 0, len := fun _ => rfl, open_ := fun _ _ => ⟨(), trivial, by simp [Lies]⟩ }
def FCodec.cons {off t : Nat} {fs : List (Nat × Nat)} {α β : Type} (c : Codec P t α) (r : FCodec P (off + c.sz) fs β) : FCodec P off ((off, t) :: fs) (α × β) :=
  { enc := fun x => c.enc x.1 ++ r.enc x.2, ok := fun x => c.ok x.1 ∧ r.ok x.2, sz := c.sz + r.sz, len := fun x => by simp [c.len, r.len],
    open_ := fun {H e w base spare held fuel cs} hlen hfs => by
      obtain ⟨x, hx⟩ := hfs (off, t) (by simp)
      rw [c.cells] at hx
      obtain ⟨a, h1, h2⟩ := c.open_ hx
      obtain ⟨b, h3, h4⟩ := r.open_ (cs := cs) (by omega) (fun g hg => hfs g (by simp [hg]))
      refine ⟨(a, b), ⟨h1, h3⟩, ?_⟩
      have : (cs.drop off).take (c.sz + r.sz) = (cs.drop off).take c.sz ++ (cs.drop (off + c.sz)).take r.sz := by
        rw [List.take_add, List.drop_drop]
      rw [this]
      exact lies_app h2 h4 }
theorem mapM_places {P : Program} : ∀ {fs : List Field} {pl : List (Nat × Nat)}, fs.mapM (fun f => (P.info? f.type).map fun i => (f.offset, i.size)) = some pl → pl.map (·.1) = fs.map (·.offset)
  | [], pl, h => by
    have : pl = [] := by simpa using h.symm
    subst this; rfl
  | f :: fs, pl, h => by
    rw [List.mapM_cons] at h
    cases hx : P.info? f.type with
    | none => simp [hx] at h
    | some i =>
      cases hxs : fs.mapM (fun f => (P.info? f.type).map fun i => (f.offset, i.size)) with
      | none => simp [hx, hxs] at h
      | some l =>
        simp [hx, hxs] at h
        subst h
        simp [mapM_places hxs]
def Codec.struct {pl : List (Nat × Nat)} {ty : List Nat} (hk : KindOk P t (.struct pl ty)) {fl : List (Nat × Nat)} (hfl : (pl.map (·.1)).zip ty = fl) (c : FCodec P 0 fl α) (hc : P.cellsOf t = c.sz) : Codec P t α :=
  { enc := c.enc, ok := c.ok, sz := c.sz, cells := hc, len := c.len,
    open_ := fun {H e w base spare held fuel cs x} h => by
      obtain ⟨fs, ht, hm, hty⟩ := hk
      obtain ⟨xs, n, rfl, _, hlen, hxs, hat⟩ := DataW.trod_struct ht h
      subst hfl
      have hl : cs.length = c.sz := hlen.trans hc
      obtain ⟨a, h1, h2⟩ := c.open_ (e := e) (w := w) (base := base) (spare := spare) (held := held) (fuel := n) (cs := cs) (by omega) (fun f hf => by
        rw [mapM_places hm, ← hty] at hf
        obtain ⟨i, hi, hi'⟩ := List.getElem_of_mem hf
        simp only [List.length_zip, List.length_map, Nat.min_self] at hi
        simp only [List.getElem_zip, List.getElem_map] at hi'
        have h3 := hat i fs.toList[i] (by simpa using List.getElem?_eq_getElem hi)
        rw [← hi']
        simp only
        rw [h3]
        have hlt : i < xs.length := by rw [hxs]; simpa using hi
        exact ⟨xs[i], List.getElem?_eq_getElem hlt⟩)
      refine ⟨a, h1, ?_⟩
      have : (cs.drop 0).take c.sz = cs := by simp [← hl]
      rw [this] at h2
      exact h2 }
/- Arguments. -/
theorem arg_one {base : Nat} {w : World} {v : Value} {H : Type} {en : TypeId × Value → H} {spare : Nat → Bool} {held : Bool} {d : DataW H} {p : List MemPlace} (c : Codec P t α) (x : α → AV) (hx : ∀ a, c.enc a = [x a])
    (hns : ∀ l, v ≠ .agg l) (h : DataW.Trod en P w base spare held t v d p) : ∃ a, c.ok a ∧ R w (fun b => b < w.heap.size) Rho.none (x a) v := by
  obtain ⟨fuel, hf⟩ := h
  rw [Value.cells_one hns] at hf
  obtain ⟨a, h1, h2⟩ := c.open_ hf
  rw [hx] at h2
  exact ⟨a, h1, by simpa using h2.2 0 (x a) rfl⟩
def oneKind (d : Option TypeDesc) : Bool := match d with
  | some (.int _) => true
  | some .bool => true
  | some .string => true
  | some (.slice _) => true
  | _ => false
theorem okWide_one {Q : Reach} {base : Nat} {w : World} {v : Value} (h : Value.okWide P w Q base t v) (hk : oneKind (P.underlying t) = true) : ∀ l, v ≠ .agg l := by
  intro l e
  subst e
  unfold oneKind at hk
  split at hk
  all_goals first | cases hk | skip
  all_goals
    rename_i hu
    simp only [Value.okWide, hu, Cell.okWide] at h
    simp [Cell.ok] at h
theorem arg_cell {Q : Reach} {base b0 : Nat} {w : World} {v : Value} {H : Type} {en : TypeId × Value → H} {spare : Nat → Bool} {held : Bool} {d : DataW H} {p : List MemPlace} (c : Codec P t α) (x : α → AV) (hx : ∀ a, c.enc a = [x a])
    (hk : oneKind (P.underlying t) = true) (hv : Value.okWide P w Q b0 t v) (h : DataW.Trod en P w base spare held t v d p) : ∃ a, c.ok a ∧ R w (fun b => b < w.heap.size) Rho.none (x a) v :=
  arg_one c x hx (okWide_one hv hk) h
theorem arg_agg {Q : Reach} {base b0 : Nat} {w : World} {v : Value} {H : Type} {en : TypeId × Value → H} {spare : Nat → Bool} {held : Bool} {d : DataW H} {p : List MemPlace} (c : Codec P t α) {fs : Array Field}
    (ht : P.underlying t = some (.struct fs)) (hv : Value.okWide P w Q b0 t v) (h : DataW.Trod en P w base spare held t v d p) : ∃ a, c.ok a ∧ R w (fun b => b < w.heap.size) Rho.none (.agg (c.enc a)) v := by
  simp only [Value.okWide, ht] at hv
  obtain ⟨cs, rfl, hsz, _⟩ := hv
  obtain ⟨fuel, hf⟩ := h
  obtain ⟨a, h1, h2⟩ := c.open_ hf
  simp only [Value.cells] at h2
  refine ⟨a, h1, .agg (by simpa using h2.1) fun i x hx => by simpa using h2.2 i x hx⟩
end
theorem Does.call {P : Program} {f : FuncId} {args : List AV} {res : AV} (h : Does P f args res) {w : World} {vs : Array Value} (hs : vs.size = args.length) (hr : ∀ i x, args[i]? = some x → R w (fun b => b < w.heap.size) Rho.none x (vs.getD i undef)) {Q : Ending → World → Prop}
    (hq : ∀ v w', Go.RowKit.Below w.heap.size w w' → R w' (fun _ => True) Rho.none res v → Q (.returned v) w') : Calls P f vs w Q := by
  refine (h.2 w (fun b => b < w.heap.size) vs hs (fun _ h => h) hr).mono ?_
  rintro e w' ⟨v, rfl, hk, hv⟩
  exact hq v w' hk.below (hv.tr (fun _ _ => ⟨trivial, rfl⟩) _ (Le.refl _))
end Go.Eng
end
section
/- The engine, part 2: short words for the steps of a walk. -/
namespace Go.Eng
/-- Goals of frames and objects. -/
theorem frI {p : Prop} (h : p := by (repeat' (first | exact rfl | exact AvIs.refl _ | exact trivial | exact fun _ _ => rfl | exact fun _ _ => ⟨rfl, AvIs.refl _⟩ | refine ⟨?_, ?_⟩))) : p := h
theorem mixO {E : Env} {P : Program} (hE : E.P = P) (h : P.follows .mixedOrders = true := by kernel_rfl) : E.P.follows .mixedOrders = true := by rw [hE]; exact h
section
variable {E : Env} {Q : Exit → ST → Prop} {ops : Array Oper} {k k' : List It} {st : ST} {T : TE} {tr0 : List (EffM × (List Nat × List Nat))}
theorem XK.n (h : XK E k' Q st) (h1 : nrmB k = true := by exact rfl) (h2 : nrm 200 k = some k' := by exact rfl) : XK E k Q st := XK.norm h1 h2 h
theorem XK.a {id : Nat} {fr fr' : Nat → AV} {ob ob' : Nat → Option Ob} {nx nt : Nat} {md : Nat → Bool} {obl obl' : List Prop} (h : XK E k Q ⟨fr', ob', nx + nt, nt, md⟩) (hT : TOk E.P T := by assumption)
    (hd : ops.toList.all (dstOk ⟨fun _ => .junk, fun _ => none, nx, nt, md⟩) = true := by exact rfl) (hr : runF T ops.toList nx nt md [] fr ob ops.toList = ⟨obl, fr', ob', []⟩ := by exact rfl) (hf : frcR obl [] = some obl' := by exact rfl)
    (ho : AllP obl' := by (first | exact trivial | (simp [AllP, impG]; done) | (simp only [AllP, List.append, List.nil_append, List.cons_append, inK, Go.Eng.tdivE, Go.Eng.tmodE, Int.toNat_natCast]; omega) | (simp [AllP, impG, inK, Go.Eng.tdivE, Go.Eng.tmodE]; omega) | ((repeat (first | (focus (first | omega | (intro i hi; first | rfl | (cases Nat.lt_one_iff.1 hi; rfl) | (rcases i with _ | _ | _ | _ | i <;> first | rfl | (exfalso; omega))) | (simp <;> omega))) | refine ⟨?_, ?_⟩)); done) | (simp only [AllP, impG, inK]; grind))) : XK E (.code (.region id ops false) :: k) Q ⟨fr, ob, nx, nt, md⟩ :=
  XK.rgn (hT := hT) (hd := hd) (hr := hr) (hf := hf) (ho := ho) (h := h)
theorem XK.b {id : Nat} {fr fr' : Nat → AV} {ob ob' : Nat → Option Ob} {nx nt : Nat} {md : Nat → Bool} {obl obl' : List Prop} (h : XK E k Q ⟨fr', ob', nx + nt, nt, md⟩) (hT : TOk E.P T := by assumption) (hm : E.P.follows .mixedOrders = true := by assumption)
    (hd : ops.toList.all (dstOk ⟨fun _ => .junk, fun _ => none, nx, nt, md⟩) = true := by exact rfl) (hr : runF T ops.toList nx nt md [] fr ob ops.toList = ⟨obl, fr', ob', []⟩ := by exact rfl) (hf : frcR obl [] = some obl' := by exact rfl)
    (hc : checkD [] [] ops.toList (runD T ops.toList nx nt md [] [] fr ob ops.toList).tr = true := by kernel_rfl)
    (ho : AllP obl' := by (first | exact trivial | (simp [AllP, impG]; done) | (simp only [AllP, List.append, List.nil_append, List.cons_append, inK, Go.Eng.tdivE, Go.Eng.tmodE, Int.toNat_natCast]; omega) | (simp [AllP, impG, inK, Go.Eng.tdivE, Go.Eng.tmodE]; omega) | ((repeat (first | (focus (first | omega | (intro i hi; first | rfl | (cases Nat.lt_one_iff.1 hi; rfl) | (rcases i with _ | _ | _ | _ | i <;> first | rfl | (exfalso; omega))) | (simp <;> omega))) | refine ⟨?_, ?_⟩)); done) | (simp only [AllP, impG, inK]; grind))) : XK E (.code (.region id ops true) :: k) Q ⟨fr, ob, nx, nt, md⟩ :=
  XK.rgnD (hT := hT) (hm := hm) (hd := hd) (hr := hr) (hf := hf) (hc := hc) (ho := ho) (h := h)
theorem XL.g {l rest : List Oper} {fr fr' : Nat → AV} {ob ob' : Nat → Option Ob} {nx nt : Nat} {md : Nat → Bool} {obl obl' : List Prop} (h : XL E ops Q rest ⟨fr', ob', nx, nt, md⟩) (hT : TOk E.P T := by assumption)
    (hd : ops.toList.all (dstOk ⟨fun _ => .junk, fun _ => none, nx, nt, md⟩) = true := by exact rfl) (hm : ops.toList.drop (ops.toList.length - l.length) = l := by exact rfl) (hr : runF T ops.toList nx nt md [] fr ob l = ⟨obl, fr', ob', rest⟩ := by exact rfl) (hf : frcR obl [] = some obl' := by exact rfl)
    (ho : AllP obl' := by (first | exact trivial | (simp [AllP, impG]; done) | (simp only [AllP, List.append, List.nil_append, List.cons_append, inK, Go.Eng.tdivE, Go.Eng.tmodE, Int.toNat_natCast]; omega) | (simp [AllP, impG, inK, Go.Eng.tdivE, Go.Eng.tmodE]; omega) | ((repeat (first | (focus (first | omega | (intro i hi; first | rfl | (cases Nat.lt_one_iff.1 hi; rfl) | (rcases i with _ | _ | _ | _ | i <;> first | rfl | (exfalso; omega))) | (simp <;> omega))) | refine ⟨?_, ?_⟩)); done) | (simp only [AllP, impG, inK]; grind))) : XL E ops Q l ⟨fr, ob, nx, nt, md⟩ :=
  XL.go (hT := hT) (hd := hd) (hm := hm) (hr := hr) (hf := hf) (ho := ho) (h := h)
end
end Go.Eng
end
section
/- What the arithmetic of package ratio computes: no program in sight. -/
namespace Go.Proofs.YtlhmgphgnedlkaaGreat
open Go.Eng
abbrev Q := Int × Int
def qv (q : Q) : AV := .agg [.c (.int .i64 q.1), .c (.int .i64 q.2)]
def qr (r : Q × Int) : AV := .tup [qv r.1, .c (.int .i64 r.2)]
def qOk (q : Q) : Bool := decide (1 ≤ q.2 ∧ q.2 ≤ 1000000 ∧ -1000000000000 ≤ q.1 ∧ q.1 ≤ 1000000000000 ∧ Nat.gcd q.1.natAbs q.2.natAbs = 1)
theorem qOk_iff {q : Q} : qOk q = true ↔ 1 ≤ q.2 ∧ q.2 ≤ 1000000 ∧ -1000000000000 ≤ q.1 ∧ q.1 ≤ 1000000000000 ∧ Nat.gcd q.1.natAbs q.2.natAbs = 1 := by simp [qOk]
def fracR (neg : Bool) (num den : Nat) : Q × Int :=
  if 1000000000000 < num / Nat.gcd num den ∨ 1000000 < den / Nat.gcd num den then ((0, 0), 2)
  else ((if neg then -((num / Nat.gcd num den : Nat) : Int) else ((num / Nat.gcd num den : Nat) : Int), ((den / Nat.gcd num den : Nat) : Int)), 0)
def makeR (num den : Int) : Q × Int := if den = 0 then ((0, 0), 1) else fracR (decide (num < 0) != decide (den < 0)) num.natAbs den.natAbs
def addR (a b : Q) : Q × Int := if qOk a && qOk b then makeR (a.1 * b.2 + b.1 * a.2) (a.2 * b.2) else ((0, 0), 1)
def qW (q : Q) : Prop := inK .i64 q.1 ∧ inK .i64 q.2
theorem qOk_W {q : Q} (h : qOk q = true) : qW q := by
  obtain ⟨h1, h2, h3, h4, _⟩ := qOk_iff.1 h
  simp only [qW, inK]; omega
theorem prod_bound {a b : Int} {A B : Int} (h1 : -A ≤ a) (h2 : a ≤ A) (h3 : 0 ≤ b) (h4 : b ≤ B) (hA : 0 ≤ A) : -(A * B) ≤ a * b ∧ a * b ≤ A * B := by
  constructor
  · have e1 : -A * b ≤ a * b := Int.mul_le_mul_of_nonneg_right h1 h3
    have e2 : A * b ≤ A * B := Int.mul_le_mul_of_nonneg_left h4 hA
    have e3 : -A * b = -(A * b) := Int.neg_mul _ _
    omega
  · exact Int.le_trans (Int.mul_le_mul_of_nonneg_right h2 h3) (Int.mul_le_mul_of_nonneg_left h4 hA)
theorem q_prod {a b : Q} (ha : qOk a = true) (hb : qOk b = true) : (-1000000000000000000 ≤ a.1 * b.2 ∧ a.1 * b.2 ≤ 1000000000000000000) ∧ (1 ≤ a.2 * b.2 ∧ a.2 * b.2 ≤ 1000000000000) := by
  obtain ⟨h1, h2, h3, h4, _⟩ := qOk_iff.1 ha
  obtain ⟨g1, g2, g3, g4, _⟩ := qOk_iff.1 hb
  have e1 := prod_bound (A := 1000000000000) (B := 1000000) h3 h4 (by omega) g2 (by omega)
  have e2 := prod_bound (A := 1000000) (B := 1000000) (a := a.2) (b := b.2) (by omega) h2 (by omega) g2 (by omega)
  have e3 : 0 < a.2 * b.2 := Int.mul_pos (by omega) (by omega)
  omega
end Go.Proofs.YtlhmgphgnedlkaaGreat
end
section
/- Tables of units and amounts, and what package quantity computes: no program in sight. -/
namespace Go.Proofs.YtlhmgphgnedlkaaGreat
open Go.Eng
structure U where
  name : ByteArray
  kind : Int
  base : Int
  fac : Q
structure A where
  unit : Int
  val : Q
def uc (u : U) : List AV := [.c (.string u.name), .c (.int .i64 u.kind), .c (.int .i64 u.base), .c (.int .i64 u.fac.1), .c (.int .i64 u.fac.2)]
def ac (a : A) : List AV := [.c (.int .i64 a.unit), .c (.int .i64 a.val.1), .c (.int .i64 a.val.2)]
def qc (q : Q) : List AV := [.c (.int .i64 q.1), .c (.int .i64 q.2)]
def av (a : A) : AV := .agg [.c (.int .i64 a.unit), .c (.int .i64 a.val.1), .c (.int .i64 a.val.2)]
def tabV (n : Nat) (t : Nat → U) : AV := .rs 5 n (fun i => uc (t i))
def ratV (n : Nat) (l : Nat → Q) : AV := .rs 2 n (fun i => qc (l i))
def uW (u : U) : Prop := inK .i64 u.kind ∧ inK .i64 u.base ∧ qW u.fac
theorem bytes_beq {a b : ByteArray} : (a == b) = true ↔ a = b := by
  obtain ⟨x⟩ := a
  obtain ⟨y⟩ := b
  show ((x == y) = true) ↔ _
  simp
theorem bytes_bne {a b : ByteArray} : (a == b) = false ↔ a ≠ b := by rw [← Bool.not_eq_true, bytes_beq]
def emptyName : ByteArray := { data := #[] }
def uOk (t : Nat → U) (n i : Nat) : Prop :=
  (i < 20 ∧ (t i).name ≠ emptyName ∧ ∀ j, j < i → (t j).name ≠ (t i).name) ∧ (((t i).kind = 1 ∨ (t i).kind = 2) ∧ qOk (t i).fac = true ∧ 0 < (t i).fac.1) ∧
  ((0 ≤ (t i).base ∧ (t i).base < n) ∧ (t (t i).base.toNat).kind = (t i).kind ∧ (t (t i).base.toNat).base = (t i).base) ∧ ((t i).base ≠ i ∨ (t i).fac = (1, 1))
instance (t : Nat → U) (n i : Nat) : Decidable (uOk t n i) := by unfold uOk; infer_instance
def uOkB (t : Nat → U) (n i : Nat) : Bool := decide (uOk t n i)
theorem uOkB_iff {t : Nat → U} {n i : Nat} : uOkB t n i = true ↔ uOk t n i := by unfold uOkB; exact decide_eq_true_iff
theorem uOkB_false {t : Nat → U} {n i : Nat} : uOkB t n i = false ↔ ¬ uOk t n i := by rw [← uOkB_iff]; simp
end Go.Proofs.YtlhmgphgnedlkaaGreat
end
section
/- How this seat's Go types read as values of Lean types. -/
namespace Go.Proofs.YtlhmgphgnedlkaaGreat
open Go.Eng
set_option maxRecDepth 10000
instance : Inhabited U := ⟨⟨emptyName, 0, 0, (0, 0)⟩⟩
instance : Inhabited A := ⟨⟨0, (0, 0)⟩⟩
noncomputable def cInt : Codec Tryz.prog 3 Int := Codec.int .i64 (show Tryz.prog.underlying 3 = some (.int .i64) from by kernel_rfl) (by kernel_rfl)
noncomputable def cStr : Codec Tryz.prog 9 ByteArray := Codec.str (show Tryz.prog.underlying 9 = some .string from by kernel_rfl) (by kernel_rfl)
noncomputable def cQ : Codec Tryz.prog 46 Q := (Codec.struct ty46_k rfl (.cons cInt (.cons cInt (.nil _ _))) (by kernel_rfl)).map (fun x => (x.1, x.2.1)) qc qW (fun _ => rfl) (fun _ => rfl) (fun _ h => ⟨h.1, h.2.1⟩)
noncomputable def cU : Codec Tryz.prog 99 U := (Codec.struct ty99_k rfl (.cons cStr (.cons cInt (.cons cInt (.cons cQ (.nil _ _))))) (by kernel_rfl)).map (fun x => ⟨x.1, x.2.1, x.2.2.1, x.2.2.2.1⟩) uc uW (fun _ => rfl) (fun _ => rfl) (fun _ h => ⟨h.2.1, h.2.2.1, h.2.2.2.1⟩)
noncomputable def cUs : Codec Tryz.prog 23 (List U) := Codec.slice cU ty23_k (by decide) (by kernel_rfl)
theorem all_getD {α : Type} [Inhabited α] {p : α → Prop} {l : List α} (h : ∀ a ∈ l, p a) : ∀ j, j < l.length → p (l.getD j default) := by
  intro j hj
  simp only [List.getD_eq_getElem?_getD, List.getElem?_eq_getElem hj, Option.getD_some]
  exact h _ (List.getElem_mem hj)
end Go.Proofs.YtlhmgphgnedlkaaGreat
end
section
/- Contracts: package ratio's and its reference's arithmetic on magnitudes. -/
namespace Go.Proofs.YtlhmgphgnedlkaaGreat
open Go.Eng
set_option maxRecDepth 10000
theorem tdiv_nn (a b : Nat) : Int.tdiv (a : Int) (b : Int) = ((a / b : Nat) : Int) := rfl
theorem tmod_nn (a b : Nat) : Int.tmod (a : Int) (b : Int) = ((a % b : Nat) : Int) := rfl
theorem cI {k : IntKind} {a b : Int} (h : a = b) : AV.c (.int k a) = AV.c (.int k b) := by rw [h]
theorem cB {a b : Bool} (h : a = b) : AV.c (.bool a) = AV.c (.bool b) := by rw [h]
theorem magnitude_ok (n : Int) (h : inK .i64 n) : Does Tryz.prog 137 [.c (.int .i64 n)] (.c (.int .u64 (n.natAbs : Int))) := by
  refine Does.mk (fun _ => false) TT_ok Tryz.func137 rfl (by kernel_rfl) Tryz.ntmps137 rfl rfl fun E hT hE hN hR => ?_
  have hm := mixO hE
  simp only [inK] at h
  (repeat (first | refine XK.n ?_ | refine XK.a ?_ | refine XK.b ?_))
  (repeat (first | refine XK.n ?_ | refine XK.a ?_ | refine XK.b ?_)); refine XK.cond rfl (fun hb => ?_) (fun hb => ?_)
  · have hn : n < 0 := by simpa using hb
    (repeat (first | refine XK.n ?_ | refine XK.a ?_ | refine XK.b ?_))
    (repeat (first | refine XK.n ?_ | refine XK.a ?_ | refine XK.b ?_))
    exact XK.ret (RetQ.ret rfl rfl (cI (by omega)))
  · have hn : ¬ n < 0 := by simpa using hb
    (repeat (first | refine XK.n ?_ | refine XK.a ?_ | refine XK.b ?_))
    (repeat (first | refine XK.n ?_ | refine XK.a ?_ | refine XK.b ?_))
    exact XK.ret (RetQ.ret rfl rfl (cI (by omega)))
def gcdTo (g : Nat → Nat) : Nat → Nat
  | 0 => 0
  | n + 1 => Nat.gcd (gcdTo g n) (g n)
theorem divisor_ok (g : Nat → Nat) (n : Nat) (hg : ∀ i, i < n → g i ≤ 18446744073709551615) : Does Tryz.prog 150 [.rs 1 n (fun i => [.c (.int .u64 (g i))])] (.c (.int .u64 (gcdTo g n : Nat))) := by
  refine Does.mk (fun _ => false) TT_ok Tryz.func150 rfl (by kernel_rfl) Tryz.ntmps150 rfl rfl fun E hT hE hN hR => ?_
  have hm := mixO hE
  refine XK.fact (Sat.rs_len (j := 0) rfl) fun hlen => ?_
  have hn := hlen.1
  have hG : ∀ i, i ≤ n → gcdTo g i ≤ 18446744073709551615 := by
    intro i hi
    induction i with
    | zero => simp [gcdTo]
    | succ i ih =>
      have h1 := ih (by omega)
      have h2 := hg i (by omega)
      simp only [gcdTo]
      by_cases h0 : gcdTo g i = 0
      · rw [h0]; simpa using h2
      · exact Nat.le_trans (Nat.gcd_le_left _ (Nat.pos_of_ne_zero h0)) h1
  (repeat (first | refine XK.n ?_ | refine XK.a ?_ | refine XK.b ?_))
  refine XK.loop (ι := Nat) (fun i => ST.of [(3, .c (.int .u64 (gcdTo g i))), (6, .rs 1 n (fun i => [.c (.int .u64 (g i))])), (7, .c (.int .i64 n)), (8, .c (.int .i64 i))] [] 1000 20 (fun _ => false))
    (fun i => i ≤ n) (fun i => n - i) 0 (by omega) (Weak.of hN rfl rfl rfl ⟨rfl, ⟨rfl, rfl, fun _ _ => rfl⟩, rfl, rfl⟩ trivial) fun i hi => ?_
  (repeat (first | refine XK.n ?_ | refine XK.a ?_ | refine XK.b ?_))
  (repeat (first | refine XK.n ?_ | refine XK.a ?_ | refine XK.b ?_)); refine XK.cond rfl (fun hb => ?_) (fun hb => ?_)
  · have hlt : i < n := by simpa using hb
    (repeat (first | refine XK.n ?_ | refine XK.a ?_ | refine XK.b ?_))
    (repeat (first | refine XK.n ?_ | refine XK.a ?_ | refine XK.b ?_))
    (repeat (first | refine XK.n ?_ | refine XK.a ?_ | refine XK.b ?_))
    refine XK.loop (ι := Nat × Nat) (fun p => ST.of [(3, .c (.int .u64 p.1)), (5, .c (.int .u64 p.2)), (6, .rs 1 n (fun i => [.c (.int .u64 (g i))])), (7, .c (.int .i64 n)), (8, .c (.int .i64 i))] [] 1000 20 (fun _ => false))
      (fun p => p.1 ≤ 18446744073709551615 ∧ p.2 ≤ 18446744073709551615 ∧ Nat.gcd p.1 p.2 = gcdTo g (i + 1)) (fun p => p.2) (gcdTo g i, g i) ⟨hG i (by omega), hg i hlt, rfl⟩
      (Weak.of hN rfl rfl rfl ⟨rfl, rfl, ⟨rfl, rfl, fun _ _ => rfl⟩, rfl, rfl⟩ trivial) fun p hp => ?_
    obtain ⟨x, y⟩ := p
    obtain ⟨h1, h2, h3⟩ := hp
    simp only at h1 h2 h3
    (repeat (first | refine XK.n ?_ | refine XK.a ?_ | refine XK.b ?_))
    (repeat (first | refine XK.n ?_ | refine XK.a ?_ | refine XK.b ?_)); refine XK.cond rfl (fun hb => ?_) (fun hb => ?_)
    · have hy : y ≠ 0 := by simpa using hb
      (repeat (first | refine XK.n ?_ | refine XK.a ?_ | refine XK.b ?_))
      (repeat (first | refine XK.n ?_ | refine XK.a ?_ | refine XK.b ?_))
      (repeat (first | refine XK.n ?_ | refine XK.a ?_ | refine XK.b ?_))
      refine XK.inv ⟨(y, x % y), ⟨h2, ?_, ?_⟩, Weak.of hN rfl rfl rfl ⟨?_, ?_, ⟨rfl, rfl, fun _ _ => rfl⟩, rfl, rfl⟩ trivial, ?_⟩
      · exact Nat.le_trans (Nat.le_of_lt (Nat.mod_lt _ (Nat.pos_of_ne_zero hy))) h2
      · rw [← h3, Nat.gcd_comm x y, Nat.gcd_rec y x, Nat.gcd_comm]
      · rfl
      · rfl
      · exact Nat.mod_lt _ (Nat.pos_of_ne_zero hy)
    · have hy : y = 0 := by simpa using hb
      subst hy
      (repeat (first | refine XK.n ?_ | refine XK.a ?_ | refine XK.b ?_))
      (repeat (first | refine XK.n ?_ | refine XK.a ?_ | refine XK.b ?_))
      refine XK.inv ⟨i + 1, hlt, Weak.of hN rfl rfl rfl ⟨?_, ⟨rfl, rfl, fun _ _ => rfl⟩, rfl, rfl⟩ trivial, ?_⟩
      · rw [← h3]; simp [AvIs]; rfl
      · omega
  · have : i = n := by
      have : ¬ i < n := by simpa using hb
      omega
    subst this
    (repeat (first | refine XK.n ?_ | refine XK.a ?_ | refine XK.b ?_))
    exact XK.ret (RetQ.ret rfl rfl rfl)
end Go.Proofs.YtlhmgphgnedlkaaGreat
end
section
/- Contracts: package ratio. -/
namespace Go.Proofs.YtlhmgphgnedlkaaGreat
open Go.Eng
set_option maxRecDepth 10000
theorem gcd2 (a b : Nat) : gcdTo (fun i => if i = 0 then a else b) 2 = Nat.gcd a b := by simp [gcdTo]
theorem fraction_ok (neg : Bool) (num den : Nat) (h1 : num ≤ 18446744073709551615) (h2 : den ≤ 18446744073709551615) (h0 : den ≠ 0) : Does Tryz.prog 136 [.c (.bool neg), .c (.int .u64 num), .c (.int .u64 den)] (qr (fracR neg num den)) := by
  refine Does.mk (fun _ => false) TT_ok Tryz.func136 rfl (by kernel_rfl) Tryz.ntmps136 rfl rfl fun E hT hE hN hR => ?_
  have hm := mixO hE
  have hg : Nat.gcd num den ≠ 0 := fun e => h0 (Nat.eq_zero_of_gcd_eq_zero_right e)
  have hq1 := Nat.div_le_self num (Nat.gcd num den)
  have hq2 := Nat.div_le_self den (Nat.gcd num den)
  (repeat (first | refine XK.n ?_ | refine XK.a ?_ | refine XK.b ?_))
  (repeat (first | refine XK.n ?_ | refine XK.a ?_ | refine XK.b ?_)); refine XK.region ?_; refine XL.g ?_
  refine XL.callL hE rfl rfl rfl rfl trivial rfl (divisor_ok (fun i => if i = 0 then num else den) 2 (fun i hi => by split <;> omega)) ?_ rfl ?_
  · refine ⟨rfl, rfl, fun i hi => ?_⟩
    match i, hi with
    | 0, _ => rfl
    | 1, _ => rfl
  rw [gcd2]
  refine XL.g ?_; refine XL.fin ?_; (repeat (first | refine XK.n ?_ | refine XK.a ?_ | refine XK.b ?_))
  (repeat (first | refine XK.n ?_ | refine XK.a ?_ | refine XK.b ?_))
  (repeat (first | refine XK.n ?_ | refine XK.a ?_ | refine XK.b ?_)); refine XK.cond rfl (fun hb => ?_) (fun hb => ?_)
  · (repeat (first | refine XK.n ?_ | refine XK.a ?_ | refine XK.b ?_))
    (first | refine XK.out rfl rfl rfl ?_ | refine XK.outN rfl rfl rfl ?_)
    have : 1000000000000 < num / num.gcd den ∨ 1000000 < den / num.gcd den := by
      rw [tdiv_nn, tdiv_nn] at hb
      generalize num / num.gcd den = q1 at *
      generalize den / num.gcd den = q2 at *
      simp only [Bool.or_eq_true, decide_eq_true_eq] at hb
      omega
    simp only [qr, fracR, if_pos this, qv]
  · have hc : ¬ (1000000000000 < num / num.gcd den ∨ 1000000 < den / num.gcd den) := by
      rw [tdiv_nn, tdiv_nn] at hb
      generalize num / num.gcd den = q1 at *
      generalize den / num.gcd den = q2 at *
      simp only [Bool.or_eq_false_iff, decide_eq_false_iff_not] at hb
      omega
    (repeat (first | refine XK.n ?_ | refine XK.a ?_ | refine XK.b ?_))
    (repeat (first | refine XK.n ?_ | refine XK.a ?_ | refine XK.b ?_)); refine XK.cond rfl (fun hb => ?_) (fun hb => ?_)
    · subst hb
      (repeat (first | refine XK.n ?_ | refine XK.a ?_ | refine XK.b ?_))
      (repeat (first | refine XK.n ?_ | refine XK.a ?_ | refine XK.b ?_))
      (first | refine XK.out rfl rfl rfl ?_ | refine XK.outN rfl rfl rfl ?_)
      simp [qr, fracR, if_neg hc, qv, tdiv_nn]
    · subst hb
      (repeat (first | refine XK.n ?_ | refine XK.a ?_ | refine XK.b ?_))
      (first | refine XK.out rfl rfl rfl ?_ | refine XK.outN rfl rfl rfl ?_)
      simp [qr, fracR, if_neg hc, qv, tdiv_nn]
theorem make_ok (num den : Int) (h1 : inK .i64 num) (h2 : inK .i64 den) : Does Tryz.prog 117 [.c (.int .i64 num), .c (.int .i64 den)] (qr (makeR num den)) := by
  refine Does.mk (fun _ => false) TT_ok Tryz.func117 rfl (by kernel_rfl) Tryz.ntmps117 rfl rfl fun E hT hE hN hR => ?_
  have hm := mixO hE
  simp only [inK] at h1 h2
  (repeat (first | refine XK.n ?_ | refine XK.a ?_ | refine XK.b ?_)); refine XK.cond rfl (fun hb => ?_) (fun hb => ?_)
  · (repeat (first | refine XK.n ?_ | refine XK.a ?_ | refine XK.b ?_))
    (first | refine XK.out rfl rfl rfl ?_ | refine XK.outN rfl rfl rfl ?_)
    have : den = 0 := by simpa using hb
    simp [qr, makeR, this, qv]
  · have hd : den ≠ 0 := by simpa using hb
    (repeat (first | refine XK.n ?_ | refine XK.a ?_ | refine XK.b ?_)); refine XK.region ?_; refine XL.g ?_
    refine XL.callL hE rfl rfl rfl rfl trivial rfl (magnitude_ok num h1) ?_ rfl ?_
    · exact rfl
    refine XL.g ?_
    refine XL.callL hE rfl rfl rfl rfl trivial rfl (magnitude_ok den h2) ?_ rfl ?_
    · exact rfl
    refine XL.g ?_
    refine XL.callL hE rfl rfl rfl rfl trivial rfl (fraction_ok (decide (num < 0) != decide (den < 0)) num.natAbs den.natAbs (by omega) (by omega) (by omega)) ?_ rfl ?_
    · exact ⟨rfl, rfl, rfl⟩
    refine XL.g ?_; refine XL.fin ?_; (repeat (first | refine XK.n ?_ | refine XK.a ?_ | refine XK.b ?_))
    (repeat (first | refine XK.n ?_ | refine XK.a ?_ | refine XK.b ?_))
    (first | refine XK.out rfl rfl rfl ?_ | refine XK.outN rfl rfl rfl ?_)
    simp [qr, makeR, hd, qv]
theorem valid_ok (q : Q) (h : qW q) : Does Tryz.prog 123 [qv q] (.c (.bool (qOk q))) := by
  refine Does.mk (fun _ => false) TT_ok Tryz.func123 rfl (by kernel_rfl) Tryz.ntmps123 rfl rfl fun E hT hE hN hR => ?_
  have hm := mixO hE
  obtain ⟨n, d⟩ := q
  obtain ⟨h1, h2⟩ := h
  simp only [inK] at h1 h2
  (repeat (first | refine XK.n ?_ | refine XK.a ?_ | refine XK.b ?_)); refine XK.cond rfl (fun hb => ?_) (fun hb => ?_)
  · (repeat (first | refine XK.n ?_ | refine XK.a ?_ | refine XK.b ?_))
    (first | refine XK.out rfl rfl rfl ?_ | refine XK.outN rfl rfl rfl ?_)
    congr 2
    simp only [Bool.or_eq_true, decide_eq_true_eq] at hb
    simp only [qOk]
    symm
    simp only [decide_eq_false_iff_not]
    omega
  · simp only [Bool.or_eq_false_iff, decide_eq_false_iff_not] at hb
    (repeat (first | refine XK.n ?_ | refine XK.a ?_ | refine XK.b ?_)); refine XK.drawn hm ?_; refine XD.goA hT rfl rfl rfl rfl ?_
    refine XD.callL hE rfl rfl rfl rfl trivial rfl (magnitude_ok n h1) ?_ rfl ?_
    · exact rfl
    refine XD.goA hT rfl rfl rfl rfl ?_
    refine XD.callL hE rfl rfl rfl rfl trivial rfl (magnitude_ok d h2) ?_ rfl ?_
    · exact rfl
    refine XD.goA hT rfl rfl rfl rfl ?_
    refine XD.callL hE rfl rfl rfl rfl trivial rfl (divisor_ok (fun i => if i = 0 then n.natAbs else d.natAbs) 2 (fun i hi => by split <;> omega)) ?_ rfl ?_
    · refine ⟨rfl, rfl, fun i hi => ?_⟩
      match i, hi with
      | 0, _ => rfl
      | 1, _ => rfl
    rw [gcd2]
    refine XD.goA hT rfl rfl rfl rfl ?_; refine XD.fin (by kernel_rfl) ?_; (repeat (first | refine XK.n ?_ | refine XK.a ?_ | refine XK.b ?_))
    (repeat (first | refine XK.n ?_ | refine XK.a ?_ | refine XK.b ?_))
    (first | refine XK.out rfl rfl rfl ?_ | refine XK.outN rfl rfl rfl ?_)
    congr 2
    rw [Bool.eq_iff_iff, qOk_iff]
    simp only [beq_iff_eq]
    omega
theorem checked_ok (a b : Q) (ha : qW a) (hb' : qW b) (fid : Nat) (l1 l2 : List AV) (r : Q × Int) (h : qOk a = true → qOk b = true → Does Tryz.prog fid [.rptr l1, .rptr l2] (qr r)) :
    Does Tryz.prog 115 [qv a, qv b, .fn (.func fid) [] [.rptr l1, .rptr l2]] (qr (if qOk a && qOk b then r else ((0, 0), 1))) := by
  refine Does.mk (fun _ => false) TT_ok Tryz.func115 rfl (by kernel_rfl) Tryz.ntmps115 rfl rfl fun E hT hE hN hR => ?_
  have hm := mixO hE
  (repeat (first | refine XK.n ?_ | refine XK.a ?_ | refine XK.b ?_)); refine XK.region ?_; refine XL.g ?_
  refine XL.callL hE rfl rfl rfl rfl trivial rfl (valid_ok a ha) ?_ rfl ?_
  · exact rfl
  refine XL.g ?_
  refine XL.callGA hE rfl rfl rfl rfl rfl rfl rfl rfl (valid_ok b hb') rfl ?_
  refine XL.g ?_; refine XL.fin ?_; (repeat (first | refine XK.n ?_ | refine XK.a ?_ | refine XK.b ?_))
  (repeat (first | refine XK.n ?_ | refine XK.a ?_ | refine XK.b ?_)); refine XK.cond rfl (fun hb => ?_) (fun hb => ?_)
  · (repeat (first | refine XK.n ?_ | refine XK.a ?_ | refine XK.b ?_))
    (first | refine XK.out rfl rfl rfl ?_ | refine XK.outN rfl rfl rfl ?_)
    have : ¬ (qOk a && qOk b) = true := by cases h1 : qOk a <;> simp_all
    simp only [if_neg this]
    rfl
  · have hab : qOk a = true ∧ qOk b = true := by simpa using hb
    (repeat (first | refine XK.n ?_ | refine XK.a ?_ | refine XK.b ?_)); refine XK.region ?_; refine XL.g ?_
    refine XL.callL hE rfl rfl rfl rfl trivial rfl (h hab.1 hab.2) ?_ rfl ?_
    · exact ⟨rfl, rfl⟩
    refine XL.g ?_; refine XL.fin ?_; (repeat (first | refine XK.n ?_ | refine XK.a ?_ | refine XK.b ?_))
    (repeat (first | refine XK.n ?_ | refine XK.a ?_ | refine XK.b ?_))
    (first | refine XK.out rfl rfl rfl ?_ | refine XK.outN rfl rfl rfl ?_)
    simp only [hab.1, hab.2, Bool.and_self, if_true]
    rfl
theorem add1_ok (a b : Q) (ha : qOk a = true) (hb' : qOk b = true) : Does Tryz.prog 116 [.rptr [.c (.int .i64 a.1), .c (.int .i64 a.2)], .rptr [.c (.int .i64 b.1), .c (.int .i64 b.2)]] (qr (makeR (a.1 * b.2 + b.1 * a.2) (a.2 * b.2))) := by
  refine Does.mk (fun _ => false) TT_ok Tryz.func116 rfl (by kernel_rfl) Tryz.ntmps116 rfl rfl fun E hT hE hN hR => ?_
  have hm := mixO hE
  obtain ⟨⟨h1, h2⟩, h3⟩ := q_prod ha hb'
  obtain ⟨⟨h4, h5⟩, h6⟩ := q_prod hb' ha
  (repeat (first | refine XK.n ?_ | refine XK.a ?_ | refine XK.b ?_))
  refine XK.region ?_
  refine XL.go hT rfl rfl rfl rfl ?_ ?_
  · (simp only [AllP, List.append, List.nil_append, List.cons_append, inK, tdiv_nn, tmod_nn, Int.toNat_natCast]; omega)
  refine XL.callL hE rfl rfl rfl rfl trivial rfl (make_ok (a.1 * b.2 + b.1 * a.2) (a.2 * b.2) (by simp only [inK]; omega) (by simp only [inK]; omega)) ?_ rfl ?_
  · exact ⟨rfl, rfl⟩
  refine XL.g ?_; refine XL.fin ?_; (repeat (first | refine XK.n ?_ | refine XK.a ?_ | refine XK.b ?_))
  (repeat (first | refine XK.n ?_ | refine XK.a ?_ | refine XK.b ?_))
  (first | refine XK.out rfl rfl rfl ?_ | refine XK.outN rfl rfl rfl ?_)
  rfl
theorem add_ok (a b : Q) (ha : qW a) (hb' : qW b) : Does Tryz.prog 76 [qv a, qv b] (qr (addR a b)) := by
  refine Does.mk (fun _ => false) TT_ok Tryz.func76 rfl (by kernel_rfl) Tryz.ntmps76 rfl rfl fun E hT hE hN hR => ?_
  have hm := mixO hE
  (repeat (first | refine XK.n ?_ | refine XK.a ?_ | refine XK.b ?_)); refine XK.region ?_; refine XL.g ?_
  refine XL.callL hE rfl rfl rfl rfl trivial rfl (checked_ok a b ha hb' _ _ _ _ (fun h1 h2 => add1_ok a b h1 h2)) ?_ rfl ?_
  · exact ⟨rfl, rfl, rfl⟩
  refine XL.g ?_; refine XL.fin ?_; (repeat (first | refine XK.n ?_ | refine XK.a ?_ | refine XK.b ?_))
  (repeat (first | refine XK.n ?_ | refine XK.a ?_ | refine XK.b ?_))
  (first | refine XK.out rfl rfl rfl ?_ | refine XK.outN rfl rfl rfl ?_)
  rfl
end Go.Proofs.YtlhmgphgnedlkaaGreat
end
section
/- Contracts: the reference of package ratio. -/
namespace Go.Proofs.YtlhmgphgnedlkaaGreat
open Go.Eng
set_option maxRecDepth 10000
end Go.Proofs.YtlhmgphgnedlkaaGreat
end
section
/- Contracts: package quantity, tables. -/
namespace Go.Proofs.YtlhmgphgnedlkaaGreat
open Go.Eng
set_option maxRecDepth 10000
theorem isIndex_ok (n : Nat) (t : Nat → U) (i : Int) : Does Tryz.prog 149 [tabV n t, .c (.int .i64 i)] (.c (.bool (decide (0 ≤ i) && decide (i < n)))) := by
  refine Does.mk (fun _ => false) TT_ok Tryz.func149 rfl (by kernel_rfl) Tryz.ntmps149 rfl rfl fun E hT hE hN hR => ?_
  have hm := mixO hE
  (repeat (first | refine XK.n ?_ | refine XK.a ?_ | refine XK.b ?_))
  (first | refine XK.out rfl rfl rfl ?_ | refine XK.outN rfl rfl rfl ?_)
  rfl
set_option maxHeartbeats 1000000 in
theorem uvalid_ok (n : Nat) (t : Nat → U) (i : Nat) (hi : i < n) (hw : ∀ j, j < n → uW (t j)) : Does Tryz.prog 122 [tabV n t, .c (.int .i64 i)] (.c (.bool (uOkB t n i))) := by
  refine Does.mk (fun _ => false) TT_ok Tryz.func122 rfl (by kernel_rfl) Tryz.ntmps122 rfl rfl fun E hT hE hN hR => ?_
  have hm := mixO hE
  refine XK.fact (Sat.rs_len (j := 0) rfl) fun hlen => ?_
  have hn := hlen.1
  have hui := hw i hi
  (repeat (first | refine XK.n ?_ | refine XK.a ?_ | refine XK.b ?_))
  (repeat (first | refine XK.n ?_ | refine XK.a ?_ | refine XK.b ?_)); refine XK.cond rfl (fun hb => ?_) (fun hb => ?_)
  · (repeat (first | refine XK.n ?_ | refine XK.a ?_ | refine XK.b ?_))
    (first | refine XK.out rfl rfl rfl ?_ | refine XK.outN rfl rfl rfl ?_)
    refine cB ?_
    symm
    rw [uOkB_false]
    simp only [Bool.or_eq_true, decide_eq_true_eq, bytes_beq] at hb
    rintro ⟨⟨h1, h2, _⟩, _⟩
    rcases hb with hb | hb
    · omega
    · exact h2 hb
  · simp only [Bool.or_eq_false_iff, decide_eq_false_iff_not, bytes_bne] at hb
    obtain ⟨hb1, hb2⟩ := hb
    have hb2 : (t i).name ≠ emptyName := hb2
    (repeat (first | refine XK.n ?_ | refine XK.a ?_ | refine XK.b ?_))
    (repeat (first | refine XK.n ?_ | refine XK.a ?_ | refine XK.b ?_))
    refine XK.loop (ι := Nat) (fun j => ST.of [(0, tabV n t), (1, .c (.int .i64 i)), (5, .ptr 95 0), (21, .rs 5 i (fun j => uc (t j))), (22, .c (.int .i64 i)), (23, .c (.int .i64 j))] [(95, .cells 99 (uc (t i)))] 1000 90 (fun _ => false))
      (fun j => j ≤ i ∧ ∀ k, k < j → (t k).name ≠ (t i).name) (fun j => i - j) 0 ⟨by omega, fun k hk => absurd hk (by omega)⟩
      (Weak.of hN rfl rfl rfl ⟨AvIs.refl _, rfl, rfl, ⟨rfl, rfl, fun j hj => rfl⟩, rfl, rfl⟩ ⟨rfl, rfl⟩) fun j hj => ?_
    obtain ⟨hj1, hj2⟩ := hj
    (repeat (first | refine XK.n ?_ | refine XK.a ?_ | refine XK.b ?_)); refine XK.cond rfl (fun hb => ?_) (fun hb => ?_)
    · have hlt : j < i := by simpa using hb
      (repeat (first | refine XK.n ?_ | refine XK.a ?_ | refine XK.b ?_))
      (repeat (first | refine XK.n ?_ | refine XK.a ?_ | refine XK.b ?_)); refine XK.cond rfl (fun hb => ?_) (fun hb => ?_)
      · (repeat (first | refine XK.n ?_ | refine XK.a ?_ | refine XK.b ?_))
        (first | refine XK.out rfl rfl rfl ?_ | refine XK.outN rfl rfl rfl ?_)
        refine cB ?_
        symm
        rw [uOkB_false]
        rintro ⟨⟨h1, h2, h3⟩, _⟩
        exact h3 j hlt (bytes_beq.1 hb)
      · (repeat (first | refine XK.n ?_ | refine XK.a ?_ | refine XK.b ?_))
        refine XK.inv ⟨j + 1, ⟨hlt, fun k hk => ?_⟩, Weak.of hN rfl rfl rfl ⟨AvIs.refl _, rfl, rfl, ⟨rfl, rfl, fun j hj => rfl⟩, rfl, rfl⟩ ⟨rfl, rfl⟩, by omega⟩
        by_cases hkj : k = j
        · subst hkj; exact bytes_bne.1 hb
        · exact hj2 k (by omega)
    · have hij : j = i := by
        have : ¬ j < i := by simpa using hb
        omega
      subst hij
      (repeat (first | refine XK.n ?_ | refine XK.a ?_ | refine XK.b ?_)); refine XK.region ?_; refine XL.g ?_
      refine XL.callGA hE rfl rfl rfl rfl rfl rfl rfl rfl (valid_ok (t j).fac hui.2.2) rfl ?_
      refine XL.g ?_; refine XL.fin ?_; (repeat (first | refine XK.n ?_ | refine XK.a ?_ | refine XK.b ?_))
      (repeat (first | refine XK.n ?_ | refine XK.a ?_ | refine XK.b ?_)); refine XK.cond rfl (fun hb => ?_) (fun hb => ?_)
      · (repeat (first | refine XK.n ?_ | refine XK.a ?_ | refine XK.b ?_))
        (first | refine XK.out rfl rfl rfl ?_ | refine XK.outN rfl rfl rfl ?_)
        refine cB ?_
        symm
        rw [uOkB_false]
        rintro ⟨_, ⟨h1, h2, h3⟩, _⟩
        simp only [Bool.or_eq_true, Bool.and_eq_true, bne_iff_ne, Bool.not_eq_true', decide_eq_true_eq] at hb
        rcases hb with (⟨h4, h5⟩ | h4) | h4
        · rcases h1 with h1 | h1
          · exact h4 h1
          · exact h5 h1
        · rw [h2] at h4; cases h4
        · omega
      · (repeat (first | refine XK.n ?_ | refine XK.a ?_ | refine XK.b ?_))
        refine XK.weak (Weak.of (L := [(0, tabV n t), (1, .c (.int .i64 j)), (5, .ptr 95 0)]) (O := [(95, .cells 99 (uc (t j)))]) (nx := 2000) (nt := 90) (md := fun _ => false) hN rfl rfl rfl ⟨AvIs.refl _, rfl, rfl⟩ ⟨rfl, rfl⟩) ?_
        refine XK.drawn hm ?_
        refine XD.go hT rfl rfl rfl rfl trivial ?_
        refine XD.callL hE rfl rfl rfl rfl trivial rfl (isIndex_ok n t (t j).base) ?_ rfl ?_
        · exact ⟨AvIs.refl _, rfl⟩
        refine XD.go hT rfl rfl rfl rfl ?_ ?_
        · (first | exact trivial | (simp [AllP, impG]; done) | (simp only [AllP, List.append, List.nil_append, List.cons_append, inK, tdiv_nn, tmod_nn, Int.toNat_natCast]; omega) | (simp [AllP, impG, inK, tdiv_nn, tmod_nn]; omega) | ((repeat (first | (focus (first | omega | (intro i hi; first | rfl | (cases Nat.lt_one_iff.1 hi; rfl) | (rcases i with _ | _ | _ | _ | i <;> first | rfl | (exfalso; omega))) | (simp <;> omega))) | refine ⟨?_, ?_⟩)); done) | (simp only [AllP, impG, inK]; grind))
        refine XD.fin (by kernel_rfl) ?_
        (repeat (first | refine XK.n ?_ | refine XK.a ?_ | refine XK.b ?_)); refine XK.cond rfl (fun hb => ?_) (fun hb => ?_)
        · (repeat (first | refine XK.n ?_ | refine XK.a ?_ | refine XK.b ?_))
          (first | refine XK.out rfl rfl rfl ?_ | refine XK.outN rfl rfl rfl ?_)
          refine cB ?_
          symm
          rw [uOkB_false]
          rintro ⟨_, _, ⟨⟨h1, h2⟩, h3, h4⟩, _⟩
          simp [h1, h2, h3, h4] at hb
        · simp at hb
          obtain ⟨⟨⟨h1, h2⟩, h3⟩, h4⟩ := hb
          (repeat (first | refine XK.n ?_ | refine XK.a ?_ | refine XK.b ?_))
          (first | refine XK.out rfl rfl rfl ?_ | refine XK.outN rfl rfl rfl ?_)
          refine cB ?_
          rw [Bool.eq_iff_iff, uOkB_iff]
          simp only [Bool.or_eq_false_iff, Bool.and_eq_false_imp, bne_iff_ne, ne_eq, bne_eq_false_iff_eq, Bool.not_eq_false', decide_eq_false_iff_not] at hb
          obtain ⟨⟨g1, g2⟩, g3⟩ := hb
          simp only [uOk, Bool.or_eq_true, bne_iff_ne, Bool.and_eq_true, beq_iff_eq, Prod.ext_iff]
          constructor
          · intro h
            exact ⟨⟨by omega, hb2, hj2⟩, ⟨by omega, g2, by omega⟩, ⟨⟨h1, h2⟩, h3, h4⟩, h⟩
          · rintro ⟨_, _, _, h⟩
            exact h
end Go.Proofs.YtlhmgphgnedlkaaGreat
end
section
/- Contracts: math/bits.Mul64; products. -/
namespace Go.Proofs.YtlhmgphgnedlkaaGreat
open Go.Eng Go.RowKit Go.Lib
set_option maxRecDepth 10000
end Go.Proofs.YtlhmgphgnedlkaaGreat
end
section
/- Products of three numbers, and the fraction that is left when common divisors are gone: no program in sight. -/
namespace Go.Proofs.YtlhmgphgnedlkaaGreat
open Go.Eng
def P3 (x : Nat → Nat) : Nat := x 0 * x 1 * x 2
structure Half (N D B : Nat) (x y : Nat → Nat) (i j : Nat) : Prop where
  pos : ∀ k, k < 3 → 0 < y k
  px : ∀ k, 0 < k → k < 3 → 0 < x k
  bx : ∀ k, k < 3 → x k ≤ B
  by_ : ∀ k, k < 3 → y k ≤ B
  eq : P3 x * D = P3 y * N
  done : ∀ i' j', i' < 3 → j' < 3 → (i' < i ∨ i' = i ∧ j' < j) → Nat.gcd (x i') (y j') = 1
end Go.Proofs.YtlhmgphgnedlkaaGreat
end
section
/- Contracts: package quantity, values. -/
namespace Go.Proofs.YtlhmgphgnedlkaaGreat
open Go.Eng
set_option maxRecDepth 10000
end Go.Proofs.YtlhmgphgnedlkaaGreat
end
section
/- Contracts: package quantity, values of amounts. -/
namespace Go.Proofs.YtlhmgphgnedlkaaGreat
open Go.Eng
set_option maxRecDepth 10000
end Go.Proofs.YtlhmgphgnedlkaaGreat
end
section
/- Contracts: package quantity, the table's validity. -/
namespace Go.Proofs.YtlhmgphgnedlkaaGreat
open Go.Eng
set_option maxRecDepth 10000
noncomputable def validR (t : Nat → U) (n : Nat) : Int × Bool := match (List.range n).find? (fun i => !uOkB t n i) with
  | some i => ((i : Int), false)
  | none => (-1, true)
theorem qvalid_ok (n : Nat) (t : Nat → U) (hw : ∀ j, j < n → uW (t j)) : Does Tryz.prog 82 [tabV n t] (.tup [.c (.int .i64 (validR t n).1), .c (.bool (validR t n).2)]) := by
  refine Does.mk (fun _ => false) TT_ok Tryz.func82 rfl (by kernel_rfl) Tryz.ntmps82 rfl rfl fun E hT hE hN hR => ?_
  have hm := mixO hE
  refine XK.fact (Sat.rs_len (j := 0) rfl) fun hlen => ?_
  have hn := hlen.1
  (repeat (first | refine XK.n ?_ | refine XK.a ?_ | refine XK.b ?_))
  refine XK.loop (ι := Nat) (fun i => ST.of [(0, tabV n t), (5, tabV n t), (6, .c (.int .i64 n)), (7, .c (.int .i64 i))] [] 1000 16 (fun _ => false))
    (fun i => i ≤ n ∧ ∀ j, j < i → uOkB t n j = true) (fun i => n - i) 0 ⟨by omega, fun j hj => by omega⟩ (Weak.of hN rfl rfl rfl ⟨AvIs.refl _, AvIs.refl _, rfl, rfl⟩ trivial) fun i hi => ?_
  obtain ⟨hi1, hi2⟩ := hi
  (repeat (first | refine XK.n ?_ | refine XK.a ?_ | refine XK.b ?_)); refine XK.cond rfl (fun hlt => ?_) (fun hlt => ?_) <;> (try simp at hlt)
  · (repeat (first | refine XK.n ?_ | refine XK.a ?_ | refine XK.b ?_)); refine XK.region ?_; refine XL.g ?_
    refine XL.callL hE rfl rfl rfl rfl trivial rfl (uvalid_ok n t i hlt hw) ?_ rfl ?_
    · exact ⟨AvIs.refl _, rfl⟩
    refine XL.g ?_; refine XL.fin ?_; (repeat (first | refine XK.n ?_ | refine XK.a ?_ | refine XK.b ?_))
    (repeat (first | refine XK.n ?_ | refine XK.a ?_ | refine XK.b ?_)); refine XK.cond rfl (fun hb => ?_) (fun hb => ?_) <;> (try simp at hb)
    · (repeat (first | refine XK.n ?_ | refine XK.a ?_ | refine XK.b ?_))
      (first | refine XK.out rfl rfl rfl ?_ | refine XK.outN rfl rfl rfl ?_)
      have : (List.range n).find? (fun i => !uOkB t n i) = some i := by
        rw [List.find?_range_eq_some]
        exact ⟨by simp [hb], by simpa using hlt, fun j hj => by simp [hi2 j hj]⟩
      simp only [validR, this]
    · (repeat (first | refine XK.n ?_ | refine XK.a ?_ | refine XK.b ?_))
      refine XK.inv ⟨i + 1, ⟨hlt, fun j hj => ?_⟩, Weak.of hN rfl rfl rfl ⟨AvIs.refl _, AvIs.refl _, rfl, rfl⟩ trivial, by omega⟩
      by_cases h : j = i
      · subst h; exact hb
      · exact hi2 j (by omega)
  · (repeat (first | refine XK.n ?_ | refine XK.a ?_ | refine XK.b ?_))
    (first | refine XK.out rfl rfl rfl ?_ | refine XK.outN rfl rfl rfl ?_)
    have : (List.range n).find? (fun i => !uOkB t n i) = none := by
      rw [List.find?_range_eq_none]
      exact fun j hj => by simp [hi2 j (by omega)]
    simp only [validR, this]
end Go.Proofs.YtlhmgphgnedlkaaGreat
end
section
/- Contracts (of the program's layer 13) as values of Lean types. -/
namespace Go.Proofs.YtlhmgphgnedlkaaGreat
open Go.Eng
set_option maxRecDepth 10000
structure Cnd where
  clause : Int
  is : Int
structure Act where
  kind : Int
  role : Int
  give : Int
  to : Int
  unit : Int
  lot : Q
structure Cl where
  kind : Int
  role : Int
  act : Int
  need : Int
  start : List Cnd
  after : Int
  grace : Int
  business : Bool
  final : Bool
  pause : Int
  resume : Int
  value : Q
  unit : Int
  to : Int
  waived : Bool
structure K where
  parties : Int
  holders : List Int
  units : List U
  acts : List Act
  clauses : List Cl
  days : Int
  off : List Int
instance : Inhabited Cnd := ⟨⟨0, 0⟩⟩
instance : Inhabited Act := ⟨⟨0, 0, 0, 0, 0, (0, 0)⟩⟩
instance : Inhabited Cl := ⟨⟨0, 0, 0, 0, [], 0, 0, false, false, 0, 0, (0, 0), 0, 0, false⟩⟩
def iC (z : Int) : List AV := [.c (.int .i64 z)]
def bC (b : Bool) : List AV := [.c (.bool b)]
def cndC (x : Cnd) : List AV := [.c (.int .i64 x.clause), .c (.int .i64 x.is)]
def actC (a : Act) : List AV := [.c (.int .i64 a.kind), .c (.int .i64 a.role), .c (.int .i64 a.give), .c (.int .i64 a.to), .c (.int .i64 a.unit), .c (.int .i64 a.lot.1), .c (.int .i64 a.lot.2)]
def intsV (l : List Int) : AV := rowL iC 1 l
def boolsV (l : List Bool) : AV := rowL bC 1 l
def cndsV (l : List Cnd) : AV := rowL cndC 2 l
def actsV (l : List Act) : AV := rowL actC 7 l
def unitsV (l : List U) : AV := rowL uc 5 l
def clC (k : Cl) : List AV := [.c (.int .i64 k.kind), .c (.int .i64 k.role), .c (.int .i64 k.act), .c (.int .i64 k.need), cndsV k.start, .c (.int .i64 k.after), .c (.int .i64 k.grace), .c (.bool k.business), .c (.bool k.final), .c (.int .i64 k.pause), .c (.int .i64 k.resume), .c (.int .i64 k.value.1), .c (.int .i64 k.value.2), .c (.int .i64 k.unit), .c (.int .i64 k.to), .c (.bool k.waived)]
def clsV (l : List Cl) : AV := rowL clC 16 l
def kC (k : K) : List AV := [.c (.int .i64 k.parties), intsV k.holders, unitsV k.units, actsV k.acts, clsV k.clauses, .c (.int .i64 k.days), intsV k.off]
def kV (k : K) : AV := .agg [.c (.int .i64 k.parties), intsV k.holders, unitsV k.units, actsV k.acts, clsV k.clauses, .c (.int .i64 k.days), intsV k.off]
def cndW (x : Cnd) : Prop := inK .i64 x.clause ∧ inK .i64 x.is
def actW (a : Act) : Prop := inK .i64 a.kind ∧ inK .i64 a.role ∧ inK .i64 a.give ∧ inK .i64 a.to ∧ inK .i64 a.unit ∧ qW a.lot
def clW (k : Cl) : Prop := inK .i64 k.kind ∧ inK .i64 k.role ∧ inK .i64 k.act ∧ inK .i64 k.need ∧ (∀ x ∈ k.start, cndW x) ∧ inK .i64 k.after ∧ inK .i64 k.grace ∧ inK .i64 k.pause ∧ inK .i64 k.resume ∧ qW k.value ∧ inK .i64 k.unit ∧ inK .i64 k.to
def kW (k : K) : Prop := inK .i64 k.parties ∧ (∀ z ∈ k.holders, inK .i64 z) ∧ (∀ u ∈ k.units, uW u) ∧ (∀ a ∈ k.acts, actW a) ∧ (∀ x ∈ k.clauses, clW x) ∧ inK .i64 k.days ∧ ∀ z ∈ k.off, inK .i64 z
noncomputable def cBool : Codec Tryz.prog 4 Bool := Codec.bool (show Tryz.prog.underlying 4 = some .bool from by kernel_rfl) (by kernel_rfl)
noncomputable def cInts : Codec Tryz.prog 22 (List Int) := Codec.slice cInt ty22_k (by decide) (by kernel_rfl)
noncomputable def cCnd : Codec Tryz.prog 130 Cnd := (Codec.struct ty130_k rfl (.cons cInt (.cons cInt (.nil _ _))) (by kernel_rfl)).map (fun x => ⟨x.1, x.2.1⟩) cndC cndW (fun _ => rfl) (fun _ => rfl) (fun _ h => ⟨h.1, h.2.1⟩)
noncomputable def cCnds : Codec Tryz.prog 44 (List Cnd) := Codec.slice cCnd ty44_k (by decide) (by kernel_rfl)
noncomputable def cAct : Codec Tryz.prog 102 Act := (Codec.struct ty102_k rfl (.cons cInt (.cons cInt (.cons cInt (.cons cInt (.cons cInt (.cons cQ (.nil _ _))))))) (by kernel_rfl)).map (fun x => ⟨x.1, x.2.1, x.2.2.1, x.2.2.2.1, x.2.2.2.2.1, x.2.2.2.2.2.1⟩) actC actW (fun _ => rfl) (fun _ => rfl) (fun _ h => ⟨h.1, h.2.1, h.2.2.1, h.2.2.2.1, h.2.2.2.2.1, h.2.2.2.2.2.1⟩)
noncomputable def cActs : Codec Tryz.prog 24 (List Act) := Codec.slice cAct ty24_k (by decide) (by kernel_rfl)
noncomputable def cCl : Codec Tryz.prog 48 Cl := (Codec.struct ty48_k rfl (.cons cInt (.cons cInt (.cons cInt (.cons cInt (.cons cCnds (.cons cInt (.cons cInt (.cons cBool (.cons cBool (.cons cInt (.cons cInt (.cons cQ (.cons cInt (.cons cInt (.cons cBool (.nil _ _)))))))))))))))) (by kernel_rfl)).map
  (fun ⟨a, b, c, d, e, f, g, h, i, j, k, l, m, n, o, _⟩ => ⟨a, b, c, d, e, f, g, h, i, j, k, l, m, n, o⟩) clC clW (fun _ => rfl) (fun _ => rfl) (fun _ ⟨a, b, c, d, e, f, g, _, _, j, k, l, m, n, _⟩ => ⟨a, b, c, d, e, f, g, j, k, l, m, n⟩)
noncomputable def cCls : Codec Tryz.prog 25 (List Cl) := Codec.slice cCl ty25_k (by decide) (by kernel_rfl)
noncomputable def cK : Codec Tryz.prog 27 K := (Codec.struct ty27_k rfl (.cons cInt (.cons cInts (.cons cUs (.cons cActs (.cons cCls (.cons cInt (.cons cInts (.nil _ _)))))))) (by kernel_rfl)).map
  (fun ⟨a, b, c, d, e, f, g, _⟩ => ⟨a, b, c, d, e, f, g⟩) kC kW (fun _ => rfl) (fun _ => rfl) (fun _ ⟨a, b, c, d, e, f, g, _⟩ => ⟨a, b, c, d, e, f, g⟩)
end Go.Proofs.YtlhmgphgnedlkaaGreat
end
