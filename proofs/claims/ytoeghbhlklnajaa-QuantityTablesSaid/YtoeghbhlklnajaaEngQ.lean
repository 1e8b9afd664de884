/- The engine, part Q: '==' on structs, cell by cell. -/
import Derived.Test.YtoeghbhlklnajaaEngP
import Derived.Laws.StructEq
namespace Go.Eng

def eqFsF (g : TypeId → Option (List TK)) : List Field → Nat → Option (List TK)
  | [], _ => some []
  | f :: fs, off => if f.name ≠ "_" ∧ f.offset = off then
      match g f.type with
      | some ks => match eqFsF g fs (off + ks.length) with
        | some ks' => some (ks ++ ks')
        | none => none
      | none => none
    else none
/-- The cells' kinds of a type for which '==' goes cell by cell. -/
def eqTF (P : Program) (T : TE) : Nat → TypeId → Option (List TK)
  | 0, _ => none
  | n + 1, t => match T.find t with
    | some ti => match ti.kind with
      | .int k => some [.int k]
      | .bool => some [.bool]
      | .string => some [.string]
      | .struct _ _ => if P.stoodInHeld t = false then match eqFsF (eqTF P T n) (P.fieldsOf t).toList 0 with
          | some ks => if ti.size = ks.length then some ks else none
          | none => none
        else none
      | _ => none
    | none => none

theorem cellsEq_cons {k : TK} {ks : List TK} {xs ys : List Value} {b : Bool} (h : cellsEq (k :: ks) xs ys = some b) : ∃ x xs' y ys' a b', xs = x :: xs' ∧ ys = y :: ys' ∧ cellEq k x y = some a ∧ cellsEq ks xs' ys' = some b' ∧ b = (a && b') := by
  match ks, xs, ys with
  | [], [x], [y] => exact ⟨x, [], y, [], b, true, rfl, rfl, h, rfl, by simp⟩
  | [], x :: x2 :: xs, y :: ys =>
    simp only [cellsEq] at h
    split at h
    · rename_i h1 h2
      simp at h2
    · cases h
  | [], [x], y :: y2 :: ys =>
    simp only [cellsEq] at h
    split at h
    · rename_i h1 h2
      simp at h2
    · cases h
  | k2 :: ks, x :: xs, y :: ys =>
    simp only [cellsEq] at h
    split at h
    · rename_i h1 h2
      injection h with h
      exact ⟨x, xs, y, ys, _, _, rfl, rfl, h1, h2, h.symm⟩
    · cases h
  | ks, [], ys => cases ks <;> simp [cellsEq] at h
  | ks, x :: xs, [] => cases ks <;> cases xs <;> simp [cellsEq] at h

theorem cellsEq_app : ∀ {ks ks' : List TK} {xs ys : List Value} {b : Bool}, cellsEq (ks ++ ks') xs ys = some b →
    ∃ x1 x2 y1 y2 b1 b2, xs = x1 ++ x2 ∧ ys = y1 ++ y2 ∧ x1.length = ks.length ∧ y1.length = ks.length ∧ cellsEq ks x1 y1 = some b1 ∧ cellsEq ks' x2 y2 = some b2 ∧ b = (b1 && b2)
  | [], ks', xs, ys, b, h => ⟨[], xs, [], ys, true, b, rfl, rfl, rfl, rfl, rfl, h, by simp⟩
  | k :: ks, ks', xs, ys, b, h => by
    obtain ⟨x, xs', y, ys', a, b', rfl, rfl, h1, h2, rfl⟩ := cellsEq_cons h
    obtain ⟨x1, x2, y1, y2, b1, b2, rfl, rfl, l1, l2, h3, h4, rfl⟩ := cellsEq_app h2
    refine ⟨x :: x1, x2, y :: y1, y2, a && b1, b2, rfl, rfl, by simp [l1], by simp [l2], ?_, h4, by simp [Bool.and_assoc]⟩
    cases ks with
    | nil =>
      match x1, y1, l1, l2 with
      | [], [], _, _ =>
        simp [cellsEq] at h3
        subst h3
        simp [cellsEq, h1]
    | cons k2 ks =>
      simp only [cellsEq, h1, h3]

theorem eqTF_ok {P : Program} {T : TE} (hT : TOk P T) : ∀ (n : Nat) (t : TypeId) (ks : List TK), eqTF P T n t = some ks →
    (∃ k ti, T.find t = some ti ∧ ti.kind.agg = false ∧ ks = [k] ∧ ∀ d x y b w, n ≤ d → cellEq k x y = some b → (Op.equalIn d t x y).run P w = .ok b w) ∨
    (∃ ti, T.find t = some ti ∧ ti.kind.agg = true ∧ ti.size = ks.length ∧ ∀ d xs ys b w, n ≤ d → cellsEq ks xs ys = some b → (Op.equalIn d t (.agg xs.toArray) (.agg ys.toArray)).run P w = .ok b w)
  | 0, _, _, h => by cases h
  | n + 1, t, ks, h => by
    simp only [eqTF] at h
    split at h
    case h_2 => cases h
    rename_i ti ht
    have hk := (hT t ti ht).kind
    split at h
    · rename_i k hkd
      injection h with h
      subst h
      rw [hkd] at hk
      refine .inl ⟨_, ti, ht, by rw [hkd]; rfl, rfl, fun d x y b w hd hc => ?_⟩
      obtain ⟨d, rfl⟩ : ∃ d', d = d' + 1 := ⟨d - 1, by omega⟩
      cases x <;> cases y <;> simp only [cellEq] at hc <;> try (cases hc; done)
      split at hc
      · rename_i he
        obtain ⟨rfl, rfl⟩ := he
        injection hc with hc
        subst hc
        exact run_equalIn_int w d t _ _ _ _ hk
      · cases hc
    · rename_i hkd
      injection h with h
      subst h
      rw [hkd] at hk
      refine .inl ⟨_, ti, ht, by rw [hkd]; rfl, rfl, fun d x y b w hd hc => ?_⟩
      obtain ⟨d, rfl⟩ : ∃ d', d = d' + 1 := ⟨d - 1, by omega⟩
      cases x <;> cases y <;> simp only [cellEq] at hc <;> try (cases hc; done)
      injection hc with hc
      subst hc
      exact run_equalIn_bool' w d t _ _ hk
    · rename_i hkd
      injection h with h
      subst h
      rw [hkd] at hk
      refine .inl ⟨_, ti, ht, by rw [hkd]; rfl, rfl, fun d x y b w hd hc => ?_⟩
      obtain ⟨d, rfl⟩ : ∃ d', d = d' + 1 := ⟨d - 1, by omega⟩
      cases x <;> cases y <;> simp only [cellEq] at hc <;> try (cases hc; done)
      injection hc with hc
      subst hc
      rw [beq_toListBytes]
      exact run_equalIn_string w d t _ _ hk
    · rename_i pl ty hkd
      split at h
      case isFalse => cases h
      rename_i hst
      split at h
      case h_2 => cases h
      rename_i ks0 hfs
      split at h
      case isFalse => cases h
      rename_i hsz
      injection h with h
      subst h
      rw [hkd] at hk
      obtain ⟨fs, hu, _, _⟩ := hk
      have hu' : P.underlying t = some (.struct (P.fieldsOf t)) := by simp [Program.fieldsOf, hu]
      refine .inr ⟨ti, ht, by rw [hkd]; rfl, hsz, fun d xs ys b w hd hc => ?_⟩
      obtain ⟨d, rfl⟩ : ∃ d', d = d' + 1 := ⟨d - 1, by omega⟩
      rw [run_equalIn_struct w d t _ _ hu' hst]
      have key : ∀ (l : List Field) (off : Nat) (ks : List TK) (xp xs yp ys : List Value) (b : Bool), eqFsF (eqTF P T n) l off = some ks → xp.length = off → yp.length = off → cellsEq ks xs ys = some b →
          (Op.eqFields d (xp ++ xs).toArray (yp ++ ys).toArray l).run P w = .ok b w := by
        intro l
        induction l with
        | nil =>
          intro off ks xp xs yp ys b hf hx hy hc
          simp only [eqFsF, Option.some.injEq] at hf
          subst hf
          match xs, ys with
          | [], [] =>
            simp [cellsEq] at hc
            subst hc
            simp [Op.eqFields]
          | _ :: _, _ => simp [cellsEq] at hc
          | [], _ :: _ => simp [cellsEq] at hc
        | cons f l ih =>
          intro off ks xp xs yp ys b hf hx hy hc
          simp only [eqFsF] at hf
          split at hf
          case isFalse => cases hf
          rename_i hno
          split at hf
          case h_2 => cases hf
          rename_i k1 hk1
          split at hf
          case h_2 => cases hf
          rename_i k2 hk2
          injection hf with hf
          subst hf
          obtain ⟨x1, x2, y1, y2, b1, b2, rfl, rfl, l1, l2, h3, h4, rfl⟩ := cellsEq_app hc
          have hrest : (Op.eqFields d (xp ++ (x1 ++ x2)).toArray (yp ++ (y1 ++ y2)).toArray l).run P w = .ok b2 w := by
            rw [← List.append_assoc, ← List.append_assoc]
            exact ih (off + k1.length) k2 (xp ++ x1) x2 (yp ++ y1) y2 b2 hk2 (by simp [hx, l1]) (by simp [hy, l2]) h4
          have hfst : ∃ p q, (part f.type (xp ++ (x1 ++ x2)).toArray f.offset).run P w = .ok p w ∧ (part f.type (yp ++ (y1 ++ y2)).toArray f.offset).run P w = .ok q w ∧ (Op.equalIn d f.type p q).run P w = .ok b1 w := by
            rcases eqTF_ok hT n f.type k1 hk1 with ⟨k, tj, hj, ha, rfl, he⟩ | ⟨tj, hj, ha, hs, he⟩
            · match x1, y1, l1, l2 with
              | [x], [y], _, _ =>
                refine ⟨x, y, ?_, ?_, he d x y b1 w (by omega) (by simpa [cellsEq] using h3)⟩
                · simp [part, (hT _ _ hj).run_isAgg w, ha, hno.2, ← hx]
                · simp [part, (hT _ _ hj).run_isAgg w, ha, hno.2, ← hy]
            · refine ⟨.agg x1.toArray, .agg y1.toArray, ?_, ?_, he d x1 y1 b1 w (by omega) h3⟩
              · simp only [part, Sem.run_bind, (hT _ _ hj).run_isAgg w, ha, (hT _ _ hj).run_sizeOf w, Result.andThen_ok, if_true, Sem.run_pure, hno.2, hs]
                congr 2
                apply Array.toList_inj.1
                simp [← hx, ← l1]
              · simp only [part, Sem.run_bind, (hT _ _ hj).run_isAgg w, ha, (hT _ _ hj).run_sizeOf w, Result.andThen_ok, if_true, Sem.run_pure, hno.2, hs]
                congr 2
                apply Array.toList_inj.1
                simp [← hy, ← l2]
          obtain ⟨p, q, hp, hq, hr⟩ := hfst
          simp only [Op.eqFields, hno.1, ne_eq, not_false_eq_true, if_true, Sem.run_bind, hp, hq, hr, Result.andThen_ok, Sem.run_ite]
          cases b1 with
          | false => simp
          | true => simpa using hrest
      simpa using key _ 0 ks0 [] xs [] ys b hfs rfl rfl hc
    · cases h

theorem LeafOk.of {P : Program} {T : TE} {t : Nat} {ks : List TK} {n : Nat} (hT : TOk P T) (hs : (T.find t).map (fun ti => ti.kind.agg) = some true) (hn : n ≤ 10000) (h : eqTF P T n t = some ks) (hg : P.eqGuardType P.depth t = false) : LeafOk P t ks := by
  refine ⟨hg, fun xs ys b w hc => ?_⟩
  rcases eqTF_ok hT n t ks h with ⟨k, ti, hi, ha, _⟩ | ⟨ti, _, _, _, he⟩
  · simp [hi, ha] at hs
  · exact he _ _ _ _ _ hn hc
end Go.Eng
