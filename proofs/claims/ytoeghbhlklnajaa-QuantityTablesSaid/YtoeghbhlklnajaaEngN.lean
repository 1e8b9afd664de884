/- The engine, part N: what the table of types takes, as closed equations. -/
import Derived.Test.YtoeghbhlklnajaaEngM
namespace Go.Eng

def LeafOk (P : Program) (t : Nat) (ks : List TK) : Prop := P.eqGuardType P.depth t = false ∧ ∀ xs ys b w, cellsEq ks xs ys = some b → (Op.equal t (.agg xs.toArray) (.agg ys.toArray)).run P w = .ok b w

theorem TIOk.of {P : Program} {t : Nat} {kind : TK} {size bytes : Nat} {zero : List Value} {leaf : Option (List TK)} {z : Value} (hi : (P.info? t).map (fun i => (i.size, i.bytes, i.zero)) = some (size, bytes, some z)) (hz : z.cells = zero.toArray)
    (hk : KindOk P t kind) (hl : ∀ ks, leaf = some ks → LeafOk P t ks) : TIOk P t { kind := kind, size := size, bytes := bytes, zero := zero, leaf := leaf } := by
  cases h : P.info? t with
  | none => simp [h] at hi
  | some i =>
    simp [h] at hi
    exact ⟨⟨i, z, h, hi.1, hi.2.1, hi.2.2, hz⟩, hk, fun ks e => hl ks e⟩

theorem KindOk.struct_of {P : Program} {t : Nat} {pl : List (Nat × Nat)} {ty : List Nat}
    (h : (match P.underlying t with
      | some (.struct fs) => some (fs.toList.mapM (fun f => (P.info? f.type).map fun i => (f.offset, i.size)), fs.toList.map (·.type))
      | _ => none) = some (some pl, ty)) : KindOk P t (.struct pl ty) := by
  split at h
  · rename_i fs hu
    simp only [Option.some.injEq, Prod.mk.injEq] at h
    exact ⟨fs, hu, h.1, h.2⟩
  · cases h
theorem KindOk.other_of {P : Program} {t : Nat}
    (h : (match P.underlying t with
      | none => false
      | some (.struct _) => false
      | some (.array _ _) => false
      | some _ => true) = true) : KindOk P t .other := by
  split at h
  · cases h
  · cases h
  · cases h
  · rename_i d h1 h2 hu
    refine ⟨d, hu, ?_⟩
    split
    · exact h1 _ rfl
    · exact h2 _ _ rfl
    · trivial
end Go.Eng
