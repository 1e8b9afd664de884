/- The engine, part I: slices built, made, appended to; one step of a region. -/
import Derived.Test.YtoeghbhlklnajaaEngH
import Derived.Maps.AppendAt
namespace Go.Eng

def bsCells (T : TE) (ob : Nat → Option Ob) (t len : Nat) (parts : List (Nat × AV)) : Option (Nat × Nat × List AV) :=
  match T.find t with
  | some ti => match ti.kind with
    | .slice e => match T.find e, pcells ob parts with
      | some te, some ps => bif Nat.ble (len * te.size) 16777216 && Nat.beq te.zero.length te.size && !te.zero.isEmpty then
          (match fillF (fun i => some (i * te.size, te.size)) ((List.range (len * te.size)).map fun i => AV.c ((te.zero[i % te.size]?).getD undef)) ps with
           | some l => bif Nat.beq l.length (len * te.size) then (match frcL l with
            | some l' => some (e, te.size, l')
            | none => none) else none
           | none => none) else none
      | _, _ => none
    | _ => none
  | none => none

/-- What is appended: how wide its elements, how many, which. -/
def srcF (ob : Nat → Option Ob) : AV → Option (Nat × Nat × (Nat → List AV))
  | .rs sz n f => some (sz, n, f)
  | .vec k s => match ob k with
    | some (.vec _ sz s' n f) => bif Nat.beq s s' then some (sz, n, f) else none
    | _ => none
  | _ => none

def catF (n : Nat) (f h : Nat → List AV) : Nat → List AV := fun i => bif Nat.blt i n then f i else h (i - n)

def appendF (T : TE) (ob : Nat → Option Ob) (k t : Nat) (s x : AV) : Option (List Prop × Eff) :=
  match T.find t with
  | some ti => match ti.kind with
    | .slice e => match T.find e, srcF ob x with
      | some te, some (sz, m, h) => bif Nat.beq sz te.size && Nat.beq te.zero.length te.size && !te.zero.isEmpty then
          (match s with
           | .vec k1 s1 => match ob k1 with
             | some (.vec e' sz' s' n f) => bif Nat.beq e e' && Nat.beq sz sz' && Nat.beq s1 s' then
                 some ([n + m ≤ 9223372036854775807, (n + m) * te.bytes ≤ 140737488355328, ∀ i, i < m → (h i).all (oneAV (fun _ => none)) = true], ⟨.vec k1 (s1 + 1), some (k1, .vec e sz (s1 + 1) (n + m) (catF n f h))⟩) else none
             | _ => none
           | .c (.slice none 0 0) => match ob k with
             | none => some ([m ≤ 9223372036854775807, m * te.bytes ≤ 140737488355328, ∀ i, i < m → (h i).all (oneAV (fun _ => none)) = true], ⟨.vec k 0, some (k, .vec e sz 0 m h)⟩)
             | _ => none
           | _ => none) else none
      | _, _ => none
    | _ => none
  | none => none

section
variable {E : Env} {st : ST} {a : Act} {w : World} {ρ : Rho} {T : TE}

theorem bs_run (hT : TOk E.P T) (h : SatR E st a w ρ) {t len : Nat} {parts : Array (Nat × Operand)} {e : Operand → AV} {el sz : Nat} {l : List AV} (he : ∀ p ∈ parts, R w (E.good w ρ) ρ (e p.2) (a.eval p.2))
    (hb : bsCells T st.ob t len (parts.toList.map fun p => (p.1, e p.2)) = some (el, sz, l)) :
    ∃ arr : Array Value, (Instr.buildSlice t len (parts.map fun (i, x) => (i, a.eval x))).run E.P w = .ok (.slice (some ⟨w.heap.size, 0, none⟩) len len) (w.alloc (.cells arr el)) ∧ arr.size = l.length ∧ l.length = len * sz ∧ len ≤ 16777216 ∧
      ∀ i x, l[i]? = some x → R w (E.good w ρ) ρ x (arr.getD i undef) := by
  unfold bsCells at hb
  split at hb
  · rename_i ti ht
    have hkd := (hT t ti ht).kind
    split at hb
    · rename_i el' hk
      rw [hk] at hkd
      simp only [KindOk] at hkd
      split at hb
      · rename_i te ps hte hps
        cases hc : Nat.ble (len * te.size) 16777216 && Nat.beq te.zero.length te.size && !te.zero.isEmpty with
        | false => simp [hc] at hb
        | true =>
          simp only [hc, cond_true] at hb
          simp only [Bool.and_eq_true] at hc
          have c1 := Nat.le_of_ble_eq_true hc.1.1
          have c2 := Nat.eq_of_beq_eq_true hc.1.2
          have c3 : 0 < te.size := by
            rw [← c2]
            cases hz : te.zero with
            | nil => simp [hz] at hc
            | cons _ _ => simp
          split at hb
          · rename_i l' hl
            cases hl2 : Nat.beq l'.length (len * te.size) with
            | false => simp [hl2] at hb
            | true =>
              simp only [hl2, cond_true] at hb
              split at hb
              case h_2 => cases hb
              rename_i l2 hfl
              have := frcL_eq hfl
              subst this
              simp only [Option.some.injEq, Prod.mk.injEq] at hb
              obtain ⟨rfl, rfl, rfl⟩ := hb
              have hl3 := Nat.eq_of_beq_eq_true hl2
              have hke := hT _ te hte
              obtain ⟨z, hz, hzc⟩ := hke.run_zero w
              have hvl : ((parts.map fun (i, x) => (i, a.eval x)).toList).length = (parts.toList.map fun p => (p.1, e p.2)).length := by simp
              obtain ⟨h1, h2⟩ := pcells_ok h hps hvl (fun j i x hj => by
                simp only [List.getElem?_map, Option.map_eq_some_iff] at hj
                obtain ⟨p, hp, he1⟩ := hj
                simp only [Prod.mk.injEq] at he1
                obtain ⟨rfl, rfl⟩ := he1
                refine ⟨a.eval p.2, ?_, he p (by simpa using List.mem_of_getElem? hp)⟩
                simp only [Array.toList_map, List.getElem?_map, hp]; rfl)
              obtain ⟨arr, h3, h4, h5⟩ := fillF_ok (arr := (Array.range (len * te.size)).map (te.zero.toArray[· % te.zero.toArray.size]!)) hl h1 h2 (by simp) (fun i x hx => by
                simp only [List.getElem?_map, Option.map_eq_some_iff] at hx
                obtain ⟨j, hj, rfl⟩ := hx
                have hjj := List.getElem?_eq_some_iff.1 hj
                obtain ⟨hlt, hje⟩ := hjj
                simp only [List.length_range] at hlt
                simp only [List.getElem_range] at hje
                subst hje
                have hmod : i % te.size < te.zero.length := by rw [c2]; exact Nat.mod_lt _ c3
                have : (((Array.range (len * te.size)).map (te.zero.toArray[· % te.zero.toArray.size]!)).getD i undef) = (te.zero[i % te.size]?).getD undef := by
                  have hmod' : i % te.zero.length < te.zero.length := by rw [c2] at hmod ⊢; exact hmod
                  have hlt' : i < (Array.range (len * te.zero.length)).size := by rw [c2]; simpa using hlt
                  simp only [← c2, Array.getD_eq_getD_getElem?, Array.getElem?_map, Array.getElem?_eq_getElem hlt', Option.map_some, Option.getD_some, Array.getElem_range, List.size_toArray, List.getElem!_toArray]
                  simp [hmod']
                rw [this]
                exact .c)
              refine ⟨arr, ?_, h4, hl3, ?_, h5⟩
              · by_cases h0 : len * te.size = 0
                · have hr0 : Array.range 0 = #[] := rfl
                  rw [h0] at h3
                  simp only [hr0, Array.map_empty] at h3
                  simp [Instr.buildSlice, run_underlying hkd, hke.run_sizeOf w, h0, hr0]
                  rw [show (List.map (fun (x : Nat × Operand) => (x.1, a.eval x.2)) parts.toList) = (parts.map fun (i, x) => (i, a.eval x)).toList by simp, h3]
                  simp [newRow]
                · simp [Instr.buildSlice, run_underlying hkd, hke.run_sizeOf w, h0, show ¬ 16777216 < len * te.size by omega, hz, hzc]
                  simp at h3
                  rw [h3]
                  simp [newRow]
              · have : len * 1 ≤ len * te.size := Nat.mul_le_mul_left len c3
                omega
          · cases hb
      · cases hb
    · cases hb
  · cases hb
end
end Go.Eng
