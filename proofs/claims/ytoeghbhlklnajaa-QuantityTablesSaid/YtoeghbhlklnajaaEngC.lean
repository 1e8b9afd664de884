/- The engine, part C: what is known of the types of a program; the operations that only compute, on abstract values, and that the model's operations do just that. -/
import Derived.Test.YtoeghbhlklnajaaEngB
namespace Go.Eng

inductive TK where
  | int (k : IntKind)
  | bool
  | string
  | struct (places : List (Nat × Nat)) (types : List Nat)
  | slice (e : Nat)
  | array (n e : Nat)
  | other

structure TI where
  kind : TK
  size : Nat
  bytes : Nat
  zero : List Value
  /-- the cells' kinds, where '==' goes cell by cell -/
  leaf : Option (List TK)

abbrev TE := List (Nat × TI)
def TE.find : TE → Nat → Option TI
  | [], _ => none
  | (k, ti) :: l, t => bif Nat.beq k t then some ti else TE.find l t

def TK.agg : TK → Bool
  | .struct _ _ => true
  | .array _ _ => true
  | _ => false

def cellEq : TK → Value → Value → Option Bool
  | .int k, .int k1 a, .int k2 b => if k = k1 ∧ k = k2 then some (a == b) else none
  | .bool, .bool a, .bool b => some (a == b)
  | .string, .string a, .string b => some (a == b)
  | _, _, _ => none
def cellsEq : List TK → List Value → List Value → Option Bool
  | [], [], [] => some true
  | [k], [x], [y] => cellEq k x y
  | k :: ks, x :: xs, y :: ys => match cellEq k x y, cellsEq ks xs ys with
    | some a, some b => some (a && b)
    | _, _ => none
  | _, _, _ => none

def KindOk (P : Program) (t : Nat) : TK → Prop
  | .int k => P.underlying t = some (.int k)
  | .bool => P.underlying t = some .bool
  | .string => P.underlying t = some .string
  | .struct places types => ∃ fs : Array Field, P.underlying t = some (.struct fs) ∧ fs.toList.mapM (fun f => (P.info? f.type).map fun i => (f.offset, i.size)) = some places ∧ fs.toList.map (·.type) = types
  | .slice e => P.underlying t = some (.slice e)
  | .array n e => P.underlying t = some (.array n e)
  | .other => ∃ d, P.underlying t = some d ∧ (match d with | .struct _ | .array _ _ => False | _ => True)

structure TIOk (P : Program) (t : Nat) (ti : TI) : Prop where
  info : ∃ i z, P.info? t = some i ∧ i.size = ti.size ∧ i.bytes = ti.bytes ∧ i.zero = some z ∧ z.cells = ti.zero.toArray
  kind : KindOk P t ti.kind
  leaf : ∀ ks, ti.leaf = some ks → P.eqGuardType P.depth t = false ∧ ∀ xs ys b w, cellsEq ks xs ys = some b → (Op.equal t (.agg xs.toArray) (.agg ys.toArray)).run P w = .ok b w

def TOk (P : Program) (T : TE) : Prop := ∀ t ti, T.find t = some ti → TIOk P t ti

theorem TOk.nil (P : Program) : TOk P [] := fun _ _ h => by simp [TE.find] at h
theorem TOk.cons {P : Program} {k : Nat} {ti : TI} {T : TE} (h : TIOk P k ti) (hT : TOk P T) : TOk P ((k, ti) :: T) := by
  intro t ti' h'
  simp only [TE.find] at h'
  cases hb : Nat.beq k t with
  | true =>
    rw [hb] at h'
    injection h' with h'
    subst h'
    rw [← Nat.eq_of_beq_eq_true hb]
    exact h
  | false => rw [hb] at h'; exact hT t ti' h'

section
variable {P : Program} {t : Nat} {ti : TI} (w : World)

theorem TIOk.run_sizeOf (h : TIOk P t ti) : (sizeOf t).run P w = .ok ti.size w := by
  obtain ⟨i, z, hi, hs, _⟩ := h.info
  simp [sizeOf, typeInfo, hi, hs]
theorem TIOk.run_isAgg (h : TIOk P t ti) : (isAgg t).run P w = .ok ti.kind.agg w := by
  have hk := h.kind
  unfold isAgg
  cases hkd : ti.kind with
  | int k => rw [hkd] at hk; simp only [KindOk] at hk; simp [run_underlying hk, TK.agg]
  | bool => rw [hkd] at hk; simp only [KindOk] at hk; simp [run_underlying hk, TK.agg]
  | string => rw [hkd] at hk; simp only [KindOk] at hk; simp [run_underlying hk, TK.agg]
  | struct pl ty => rw [hkd] at hk; obtain ⟨fs, hk, _⟩ := hk; simp [run_underlying hk, TK.agg]
  | slice e => rw [hkd] at hk; simp only [KindOk] at hk; simp [run_underlying hk, TK.agg]
  | array n e => rw [hkd] at hk; simp only [KindOk] at hk; simp [run_underlying hk, TK.agg]
  | other =>
    rw [hkd] at hk
    obtain ⟨d, hk, hd⟩ := hk
    cases d <;> simp_all [run_underlying hk, TK.agg]
theorem TIOk.run_zero (h : TIOk P t ti) : ∃ z, (zeroValue t).run P w = .ok z w ∧ z.cells = ti.zero.toArray := by
  obtain ⟨i, z, hi, _, _, hz, hc⟩ := h.info
  exact ⟨z, by simp [zeroValue, typeInfo, hi, hz], hc⟩
end

/- What a value is, read off what the engine says of it. -/
section
variable {w : World} {G : Nat → Prop} {ρ : Rho} {u : Value}
theorem R.c_inv {v : Value} (h : R w G ρ (.c v) u) : u = v := by cases h; rfl
theorem R.agg_inv {l : List AV} (h : R w G ρ (.agg l) u) : ∃ cs : Array Value, u = .agg cs ∧ cs.size = l.length ∧ ∀ i a, l[i]? = some a → R w G ρ a (cs.getD i undef) := by
  cases h with | agg hs h => exact ⟨_, rfl, hs, h⟩
theorem R.tup_inv {l : List AV} (h : R w G ρ (.tup l) u) : ∃ cs : Array Value, u = .tuple cs ∧ cs.size = l.length ∧ ∀ i a, l[i]? = some a → R w G ρ a (cs.getD i undef) := by
  cases h with | tup hs h => exact ⟨_, rfl, hs, h⟩
theorem R.ptr_inv {k off : Nat} (h : R w G ρ (.ptr k off) u) : ∃ g, ρ k = some (.blk g) ∧ u = .pointer (some ⟨g, off, none⟩) := by
  cases h with | ptr hk => exact ⟨_, hk, rfl⟩
theorem R.gd_inv {g : Bool} {a : AV} (h : R w G ρ (.gd g a) u) : (g = true → R w G ρ a u) ∧ (g = false → u = undef) := by
  cases h with | gd h1 h2 => exact ⟨h1, h2⟩
theorem R.vec_inv {k s : Nat} {hv : Value} (h : R w G ρ (.vec k s) u) (hk : ρ k = some (.hdr s hv)) : u = hv := by
  cases h with
  | vec h => rw [hk] at h; injection h with h; injection h with _ h; exact h.symm
  | vecOld h hs => rw [hk] at h; injection h with h; injection h with h _; omega
theorem R.vptr_inv {k s sz i off : Nat} {hv : Value} (h : R w G ρ (.vptr k s sz i off) u) (hk : ρ k = some (.hdr s hv)) :
    ∃ g n cap, hv = .slice (some ⟨g, 0, none⟩) n cap ∧ i < n ∧ u = .pointer (some ⟨g, i * sz + off, none⟩) := by
  cases h with
  | vptr h hi => rw [hk] at h; injection h with h; injection h with _ h; exact ⟨_, _, _, h, hi, rfl⟩
  | vptrOld h hs => rw [hk] at h; injection h with h; injection h with h _; omega

/-- The cells from an address on read as these. -/
def Cells (w : World) (G : Nat → Prop) (ρ : Rho) (a : Addr) (cs : List AV) : Prop := ∀ i x, cs[i]? = some x → ∃ v, w.cell? (a.add i) = some v ∧ R w G ρ x v

theorem R.rptr_inv {l : List AV} (h : R w G ρ (.rptr l) u) : ∃ a, u = .pointer (some a) ∧ G a.block ∧ Cells w G Rho.none a l := by
  cases h with
  | rptr val hg hc h => exact ⟨_, rfl, hg, fun i x hx => ⟨val i, hc i (List.getElem?_eq_some_iff.1 hx).1, h i x hx⟩⟩
theorem R.rptr_mk {l : List AV} {a : Addr} (hg : G a.block) (h : Cells w G Rho.none a l) : R w G ρ (.rptr l) (.pointer (some a)) := by
  refine .rptr (fun i => (w.cell? (a.add i)).getD undef) hg (fun i hi => ?_) fun i x hx => ?_
  · obtain ⟨v, hv, _⟩ := h i _ (List.getElem?_eq_getElem hi); simp [hv]
  · obtain ⟨v, hv, hr⟩ := h i x hx; simpa [hv] using hr
theorem R.rs_inv {sz n : Nat} {f : Nat → List AV} (h : R w G ρ (.rs sz n f) u) : ∃ A cap, u = .slice A n cap ∧ n ≤ cap ∧ cap ≤ maxLen ∧ (∀ i, i < n → (f i).length = sz) ∧
    (0 < n → ∃ a, A = some a ∧ G a.block ∧ ∀ i, i < n → Cells w G Rho.none (a.add (i * sz)) (f i)) := by
  cases h with
  | rs val hn hm hc hl h =>
    refine ⟨_, _, rfl, hn, hm, hl, fun h0 => ?_⟩
    obtain ⟨a, rfl, hg, hcc⟩ := hc h0
    refine ⟨a, rfl, hg, fun i hi j x hx => ⟨val i j, ?_, h i j x hi hx⟩⟩
    rw [add_add]
    exact hcc i j hi (by rw [← hl i hi]; exact (List.getElem?_eq_some_iff.1 hx).1)
theorem R.rs_mk {sz n cap : Nat} {f : Nat → List AV} {A : Option Addr} (hn : n ≤ cap) (hm : cap ≤ maxLen) (hl : ∀ i, i < n → (f i).length = sz)
    (h : 0 < n → ∃ a, A = some a ∧ G a.block ∧ ∀ i, i < n → Cells w G Rho.none (a.add (i * sz)) (f i)) : R w G ρ (.rs sz n f) (.slice A n cap) := by
  refine .rs (fun i j => (w.cell? ((A.getD default).add (i * sz + j))).getD undef) hn hm (fun h0 => ?_) hl fun i j x hi hx => ?_
  · obtain ⟨a, rfl, hg, hc⟩ := h h0
    refine ⟨a, rfl, hg, fun i j hi hj => ?_⟩
    obtain ⟨v, hv, _⟩ := hc i hi j _ (List.getElem?_eq_getElem (by rw [hl i hi]; exact hj))
    rw [add_add] at hv
    simp [hv]
  · obtain ⟨a, rfl, hg, hc⟩ := h (by omega)
    obtain ⟨v, hv, hr⟩ := hc i hi j x hx
    rw [add_add] at hv
    simpa [hv] using hr

theorem Cells.drop {a : Addr} {cs : List AV} (h : Cells w G ρ a cs) (n : Nat) : Cells w G ρ (a.add n) (cs.drop n) := by
  intro i x hx
  rw [List.getElem?_drop] at hx
  rw [add_add]
  exact h _ x hx
end

/-- What a load of a variable of this type sees in cells. -/
def cellsAt (ti : TI) (cs : List AV) (off : Nat) : Option AV :=
  bif ti.kind.agg then (bif Nat.ble (off + ti.size) cs.length then some (.agg ((cs.drop off).take ti.size)) else none) else cs[off]?

section
variable {P : Program} {w : World} {G : Nat → Prop} {ρ : Rho} {T : TE} {t : Nat} {ti : TI}

theorem run_loadVar (ht : TIOk P t ti) {a : Addr} {cs : List AV} {off : Nat} {x : AV} (h : Cells w G ρ a cs) (hx : cellsAt ti cs off = some x) :
    ∃ v, (loadVar t (a.add off)).run P w = .ok v w ∧ R w G ρ x v := by
  unfold cellsAt at hx
  cases hk : ti.kind.agg with
  | false =>
    simp only [hk, cond_false] at hx
    obtain ⟨v, hv, hr⟩ := h off x hx
    exact ⟨v, by simp [loadVar, ht.run_isAgg w, hk, hv], hr⟩
  | true =>
    simp only [hk, cond_true] at hx
    cases hb : Nat.ble (off + ti.size) cs.length with
    | false => rw [hb] at hx; simp at hx
    | true =>
      rw [hb] at hx
      simp only [cond_true] at hx
      injection hx with hx
      subst hx
      have hle := Nat.le_of_ble_eq_true hb
      refine ⟨.agg ((List.range ti.size).map fun j => (w.cell? ((a.add off).add j)).getD undef).toArray, ?_, .agg (by simp; omega) fun i y hy => ?_⟩
      · have : (loadCells (a.add off) ti.size).run P w = _ := run_loadCells (P := P) w (a.add off) ti.size (fun j => (w.cell? ((a.add off).add j)).getD undef) fun j hj => by
          obtain ⟨v, hv, _⟩ := h (off + j) _ (List.getElem?_eq_getElem (by omega))
          rw [add_add, hv]; rfl
        simp [loadVar, ht.run_isAgg w, hk, ht.run_sizeOf w, this]
      · have hi : i < ti.size := by
          have := (List.getElem?_eq_some_iff.1 hy).1
          simp at this; omega
        rw [List.getElem?_take, if_pos hi, List.getElem?_drop] at hy
        obtain ⟨v, hv, hr⟩ := h (off + i) y hy
        simpa [hi, add_add, hv] using hr
end
end Go.Eng
