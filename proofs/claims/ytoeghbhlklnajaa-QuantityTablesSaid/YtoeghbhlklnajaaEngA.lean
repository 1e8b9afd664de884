/- The engine, part A: abstract values, how they are realised in a world, and what carries a realisation from world to world. No program in sight. -/
import Derived.WalkKit
import Derived.Orders
namespace Go.Eng

/-- Abstract values. 'ptr k off': into the call's own object k. 'rptr l': to memory that stays, whose cells read l. 'rs sz n f': a slice over memory that stays. 'vec k s': the header, at stamp s, of the call's own row k. 'vptr k s sz i off': to its element i (an array's variable: element 0). 'gd g a': a, if g; else nothing. -/
inductive AV where
  | junk
  | c (v : Value)
  | agg (l : List AV)
  | tup (l : List AV)
  | ptr (k off : Nat)
  | vptr (k s sz i off : Nat)
  | rptr (l : List AV)
  | rs (sz n : Nat) (f : Nat → List AV)
  | vec (k s : Nat)
  | fn (f : Fn) (first cap : List AV)
  | gd (g : Bool) (a : AV)

/-- Where an object lies: a block of cells, or a row's header with its stamp. -/
inductive RV where
  | blk (g : Nat)
  | hdr (s : Nat) (v : Value)

def RV.block : RV → Option Nat
  | .blk g => some g
  | .hdr _ v => v.ownBlock

abbrev Rho := Nat → Option RV
def Rho.none : Rho := fun _ => Option.none

/-- 'v', in world 'w', is what 'a' says; memory that stays lies in blocks that meet G; objects lie where ρ says. -/
inductive R (w : World) (G : Nat → Prop) : Rho → AV → Value → Prop
  | junk {ρ : Rho} {v : Value} : R w G ρ .junk v
  | c {ρ : Rho} {v : Value} : R w G ρ (.c v) v
  | agg {ρ : Rho} {l : List AV} {cs : Array Value} (hs : cs.size = l.length) (h : ∀ i a, l[i]? = some a → R w G ρ a (cs.getD i undef)) : R w G ρ (.agg l) (.agg cs)
  | tup {ρ : Rho} {l : List AV} {cs : Array Value} (hs : cs.size = l.length) (h : ∀ i a, l[i]? = some a → R w G ρ a (cs.getD i undef)) : R w G ρ (.tup l) (.tuple cs)
  | ptr {ρ : Rho} {k off g : Nat} (hk : ρ k = some (.blk g)) : R w G ρ (.ptr k off) (.pointer (some ⟨g, off, .none⟩))
  | vptr {ρ : Rho} {k s sz i off g n cap : Nat} (hk : ρ k = some (.hdr s (.slice (some ⟨g, 0, .none⟩) n cap))) (hi : i < n) : R w G ρ (.vptr k s sz i off) (.pointer (some ⟨g, i * sz + off, .none⟩))
  | vptrOld {ρ : Rho} {k s s' sz i off : Nat} {hv v : Value} (hk : ρ k = some (.hdr s' hv)) (hs : s < s') : R w G ρ (.vptr k s sz i off) v
  | vec {ρ : Rho} {k s : Nat} {hv : Value} (hk : ρ k = some (.hdr s hv)) : R w G ρ (.vec k s) hv
  | vecOld {ρ : Rho} {k s s' : Nat} {hv v : Value} (hk : ρ k = some (.hdr s' hv)) (hs : s < s') : R w G ρ (.vec k s) v
  | rptr {ρ : Rho} {l : List AV} {a : Addr} (val : Nat → Value) (hg : G a.block) (hc : ∀ i, i < l.length → w.cell? (a.add i) = some (val i)) (h : ∀ i x, l[i]? = some x → R w G Rho.none x (val i)) : R w G ρ (.rptr l) (.pointer (some a))
  | rs {ρ : Rho} {sz n : Nat} {f : Nat → List AV} {A : Option Addr} {cap : Nat} (val : Nat → Nat → Value) (hn : n ≤ cap) (hm : cap ≤ maxLen)
      (hc : 0 < n → ∃ a, A = some a ∧ G a.block ∧ ∀ i j, i < n → j < sz → w.cell? (a.add (i * sz + j)) = some (val i j))
      (hl : ∀ i, i < n → (f i).length = sz) (h : ∀ i j x, i < n → (f i)[j]? = some x → R w G Rho.none x (val i j)) : R w G ρ (.rs sz n f) (.slice A n cap)
  | fn {ρ : Rho} {f : Fn} {l l' : List AV} {fs cs : Array Value} (hs : fs.size = l.length) (h : ∀ i a, l[i]? = some a → R w G ρ a (fs.getD i undef))
      (hs' : cs.size = l'.length) (h' : ∀ i a, l'[i]? = some a → R w G ρ a (cs.getD i undef)) : R w G ρ (.fn f l l') (.func f fs cs)
  | gd {ρ : Rho} {g : Bool} {a : AV} {v : Value} (ht : g = true → R w G ρ a v) (hf : g = false → v = undef) : R w G ρ (.gd g a) v

/-- ρ' knows all that ρ knew; a row may have a later header. -/
def Le (ρ ρ' : Rho) : Prop := ∀ k x, ρ k = some x → ρ' k = some x ∨ ∃ s v s' v', x = .hdr s v ∧ ρ' k = some (.hdr s' v') ∧ s < s'

theorem Le.refl (ρ : Rho) : Le ρ ρ := fun _ _ h => .inl h
theorem Le.none (ρ : Rho) : Le Rho.none ρ := fun _ _ h => by cases h

theorem block_add (a : Addr) (n : Nat) : (a.add n).block = a.block := by unfold Addr.add; split <;> rfl
theorem add_add (a : Addr) (i j : Nat) : (a.add i).add j = a.add (i + j) := by
  unfold Addr.add
  by_cases hi : i = 0 <;> by_cases hj : j = 0 <;> simp [hi, hj, Nat.add_assoc]

/-- A realisation is carried on: what stays reads as it did; objects lie where they lay, but for rows with later headers. -/
theorem R.tr {w w' : World} {G G' : Nat → Prop} (hG : ∀ b, G b → G' b ∧ w'.heap[b]? = w.heap[b]?) {ρ : Rho} {a : AV} {v : Value} (h : R w G ρ a v) :
    ∀ ρ', Le ρ ρ' → R w' G' ρ' a v := by
  induction h with
  | junk => exact fun _ _ => .junk
  | c => exact fun _ _ => .c
  | agg hs _ ih => exact fun ρ' hl => .agg hs fun i a h => ih i a h ρ' hl
  | tup hs _ ih => exact fun ρ' hl => .tup hs fun i a h => ih i a h ρ' hl
  | ptr hk =>
    intro ρ' hl
    rcases hl _ _ hk with h | ⟨s, v, _, _, h, _⟩
    · exact .ptr h
    · cases h
  | vptr hk hi =>
    intro ρ' hl
    rcases hl _ _ hk with h | ⟨s, v, s', v', h, h', hs⟩
    · exact .vptr h hi
    · cases h; exact .vptrOld h' hs
  | vptrOld hk hs =>
    intro ρ' hl
    rcases hl _ _ hk with h | ⟨s, v, s', v', h, h', hs'⟩
    · exact .vptrOld h hs
    · cases h; exact .vptrOld h' (Nat.lt_trans hs hs')
  | vec hk =>
    intro ρ' hl
    rcases hl _ _ hk with h | ⟨s, v, s', v', h, h', hs⟩
    · exact .vec h
    · cases h; exact .vecOld h' hs
  | vecOld hk hs =>
    intro ρ' hl
    rcases hl _ _ hk with h | ⟨s, v, s', v', h, h', hs'⟩
    · exact .vecOld h hs
    · cases h; exact .vecOld h' (Nat.lt_trans hs hs')
  | rptr val hg hc _ ih =>
    intro ρ' _
    refine .rptr val (hG _ hg).1 (fun i hi => ?_) (fun i x hx => ih i x hx _ (Le.none _))
    rw [World.cell?_of_block (w := w)]
    · exact hc i hi
    · rw [block_add]; exact (hG _ hg).2
  | rs val hn hm hc hl _ ih =>
    intro ρ' _
    refine .rs val hn hm (fun h0 => ?_) hl (fun i j x hi hx => ih i j x hi hx _ (Le.none _))
    obtain ⟨a, rfl, hg, hcc⟩ := hc h0
    refine ⟨a, rfl, (hG _ hg).1, fun i j hi hj => ?_⟩
    rw [World.cell?_of_block (w := w)]
    · exact hcc i j hi hj
    · rw [block_add]; exact (hG _ hg).2
  | fn hs _ hs' _ ih ih' => exact fun ρ' hl => .fn hs (fun i a h => ih i a h ρ' hl) hs' (fun i a h => ih' i a h ρ' hl)
  | gd _ hf ih => exact fun ρ' hl => .gd (fun h => ih h ρ' hl) hf

mutual
/-- Every object that 'a' names meets p. -/
def AV.ks (p : Nat → Bool) : AV → Bool
  | .agg l => AV.ksL p l
  | .tup l => AV.ksL p l
  | .ptr k _ => p k
  | .vptr k _ _ _ _ => p k
  | .vec k _ => p k
  | .fn _ l l' => AV.ksL p l && AV.ksL p l'
  | .gd _ a => AV.ks p a
  | .junk => true
  | .c _ => true
  | .rptr _ => true
  | .rs _ _ _ => true
def AV.ksL (p : Nat → Bool) : List AV → Bool
  | [] => true
  | a :: l => AV.ks p a && AV.ksL p l
end

theorem AV.ksL_at {p : Nat → Bool} : ∀ {l : List AV} {i : Nat} {a : AV}, AV.ksL p l = true → l[i]? = some a → a.ks p = true
  | [], i, a, _, h => by simp at h
  | b :: l, 0, a, hl, h => by simp at h; subst h; simp [AV.ksL] at hl; exact hl.1
  | b :: l, i + 1, a, hl, h => by simp at h; simp [AV.ksL] at hl; exact AV.ksL_at hl.2 h

/-- Objects that 'a' does not name may be forgotten. -/
theorem R.cut {w : World} {G : Nat → Prop} {ρ : Rho} {a : AV} {v : Value} (h : R w G ρ a v) :
    ∀ (p : Nat → Bool) (ρ' : Rho), (∀ k, p k = true → ρ' k = ρ k) → a.ks p = true → R w G ρ' a v := by
  induction h with
  | junk => exact fun _ _ _ _ => .junk
  | c => exact fun _ _ _ _ => .c
  | agg hs _ ih => exact fun p ρ' hp hk => .agg hs fun i a h => ih i a h p ρ' hp (AV.ksL_at (by simpa [AV.ks] using hk) h)
  | tup hs _ ih => exact fun p ρ' hp hk => .tup hs fun i a h => ih i a h p ρ' hp (AV.ksL_at (by simpa [AV.ks] using hk) h)
  | ptr hk => exact fun p ρ' hp h => .ptr ((hp _ (by simpa [AV.ks] using h)).trans hk)
  | vptr hk hi => exact fun p ρ' hp h => .vptr ((hp _ (by simpa [AV.ks] using h)).trans hk) hi
  | vptrOld hk hs => exact fun p ρ' hp h => .vptrOld ((hp _ (by simpa [AV.ks] using h)).trans hk) hs
  | vec hk => exact fun p ρ' hp h => .vec ((hp _ (by simpa [AV.ks] using h)).trans hk)
  | vecOld hk hs => exact fun p ρ' hp h => .vecOld ((hp _ (by simpa [AV.ks] using h)).trans hk) hs
  | rptr val hg hc h _ => exact fun _ _ _ _ => .rptr val hg hc h
  | rs val hn hm hc hl h _ => exact fun _ _ _ _ => .rs val hn hm hc hl h
  | fn hs _ hs' _ ih ih' =>
    intro p ρ' hp hk
    simp only [AV.ks, Bool.and_eq_true] at hk
    exact .fn hs (fun i a h => ih i a h p ρ' hp (AV.ksL_at hk.1 h)) hs' (fun i a h => ih' i a h p ρ' hp (AV.ksL_at hk.2 h))
  | gd _ hf ih => exact fun p ρ' hp hk => .gd (fun h => ih h p ρ' hp (by simpa [AV.ks] using hk)) hf

/-- What names no object is realised whatever the objects. -/
theorem R.free {w : World} {G : Nat → Prop} {ρ ρ' : Rho} {a : AV} {v : Value} (h : R w G ρ a v) (hk : a.ks (fun _ => false) = true) : R w G ρ' a v :=
  h.cut (fun _ => false) ρ' (fun _ h => by cases h) hk

mutual
/-- No memory at all: numbers, bools, strings, and structs and results of these. -/
def AV.flat : AV → Bool
  | .agg l => AV.flatL l
  | .tup l => AV.flatL l
  | .c _ => true
  | .junk => true
  | .ptr _ _ => false
  | .vptr _ _ _ _ _ => false
  | .vec _ _ => false
  | .fn _ _ _ => false
  | .gd _ _ => false
  | .rptr _ => false
  | .rs _ _ _ => false
def AV.flatL : List AV → Bool
  | [] => true
  | a :: l => AV.flat a && AV.flatL l
end

theorem AV.flatL_at : ∀ {l : List AV} {i : Nat} {a : AV}, AV.flatL l = true → l[i]? = some a → a.flat = true
  | [], i, a, _, h => by simp at h
  | b :: l, 0, a, hl, h => by simp at h; subst h; simp [AV.flatL] at hl; exact hl.1
  | b :: l, i + 1, a, hl, h => by simp at h; simp [AV.flatL] at hl; exact AV.flatL_at hl.2 h

theorem R.of_flat {w w' : World} {G G' : Nat → Prop} {ρ : Rho} {a : AV} {v : Value} (h : R w G ρ a v) : ∀ ρ' : Rho, a.flat = true → R w' G' ρ' a v := by
  induction h with
  | junk => exact fun _ _ => .junk
  | c => exact fun _ _ => .c
  | agg hs _ ih => exact fun ρ' hk => .agg hs fun i a h => ih i a h ρ' (AV.flatL_at (by simpa [AV.flat] using hk) h)
  | tup hs _ ih => exact fun ρ' hk => .tup hs fun i a h => ih i a h ρ' (AV.flatL_at (by simpa [AV.flat] using hk) h)
  | ptr => intro _ h; simp [AV.flat] at h
  | vptr => intro _ h; simp [AV.flat] at h
  | vptrOld => intro _ h; simp [AV.flat] at h
  | vec => intro _ h; simp [AV.flat] at h
  | vecOld => intro _ h; simp [AV.flat] at h
  | rptr => intro _ h; simp [AV.flat] at h
  | rs => intro _ h; simp [AV.flat] at h
  | fn => intro _ h; simp [AV.flat] at h
  | gd => intro _ h; simp [AV.flat] at h

mutual
/-- The same value, written out as far as its own form goes. -/
def frc : AV → Option AV
  | .junk => some .junk
  | .c v => some (.c v)
  | .agg l => match frcL l with
    | some l' => some (.agg l')
    | none => none
  | .tup l => match frcL l with
    | some l' => some (.tup l')
    | none => none
  | .ptr k off => (match k with
    | 0 => some (.ptr 0 off)
    | k' + 1 => some (.ptr (k' + 1) off))
  | .vptr k s sz i off => (match k with
    | 0 => some (.vptr 0 s sz i off)
    | k' + 1 => some (.vptr (k' + 1) s sz i off))
  | .rptr l => some (.rptr l)
  | .rs sz n f => some (.rs sz n f)
  | .vec k s => (match k with
    | 0 => some (.vec 0 s)
    | k' + 1 => some (.vec (k' + 1) s))
  | .fn f l l' => some (.fn f l l')
  | .gd g a => match frc a with
    | some a' => some (.gd g a')
    | none => none
def frcL : List AV → Option (List AV)
  | [] => some []
  | a :: l => match frc a, frcL l with
    | some a', some l' => some (a' :: l')
    | _, _ => none
end
mutual
theorem frc_eq : ∀ {a b : AV}, frc a = some b → b = a
  | .junk, b, h => by simp [frc] at h; exact h.symm
  | .c v, b, h => by simp [frc] at h; exact h.symm
  | .agg l, b, h => by
    simp only [frc] at h
    cases hl : frcL l with
    | none => simp [hl] at h
    | some l' => simp [hl] at h; rw [← h, frcL_eq hl]
  | .tup l, b, h => by
    simp only [frc] at h
    cases hl : frcL l with
    | none => simp [hl] at h
    | some l' => simp [hl] at h; rw [← h, frcL_eq hl]
  | .ptr k off, b, h => by cases k <;> simp [frc] at h <;> exact h.symm
  | .vptr k s sz i off, b, h => by cases k <;> simp [frc] at h <;> exact h.symm
  | .rptr l, b, h => by simp [frc] at h; exact h.symm
  | .rs sz n f, b, h => by simp [frc] at h; exact h.symm
  | .vec k s, b, h => by cases k <;> simp [frc] at h <;> exact h.symm
  | .fn f l l', b, h => by simp [frc] at h; exact h.symm
  | .gd g a, b, h => by
    simp only [frc] at h
    cases hl : frc a with
    | none => simp [hl] at h
    | some a' => simp [hl] at h; rw [← h, frc_eq hl]
theorem frcL_eq : ∀ {a b : List AV}, frcL a = some b → b = a
  | [], b, h => by simp [frcL] at h; exact h
  | a :: l, b, h => by
    simp only [frcL] at h
    cases h1 : frc a with
    | none => simp [h1] at h
    | some a' =>
      cases h2 : frcL l with
      | none => simp [h1, h2] at h
      | some l' => simp [h1, h2] at h; rw [← h, frc_eq h1, frcL_eq h2]
end

end Go.Eng
