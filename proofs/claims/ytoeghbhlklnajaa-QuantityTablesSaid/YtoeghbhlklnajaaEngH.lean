/- The engine, part H: the operations that make memory, or write it. -/
import Derived.Test.YtoeghbhlklnajaaEngG
namespace Go.Eng

/-- Row i, of sz cells, of a list of cells. -/
def rowOf (cs : List AV) (sz : Nat) : Nat → List AV := fun i => (cs.drop (i * sz)).take sz

theorem rowOf_length {cs : List AV} {sz n i : Nat} (h : cs.length = n * sz) (hi : i < n) : (rowOf cs sz i).length = sz := by
  have : (i + 1) * sz ≤ n * sz := Nat.mul_le_mul_right sz hi
  rw [Nat.add_mul] at this
  simp only [rowOf, List.length_take, List.length_drop]
  omega
theorem rowOf_get {cs : List AV} {sz i j : Nat} {x : AV} (h : (rowOf cs sz i)[j]? = some x) : j < sz ∧ cs[i * sz + j]? = some x := by
  simp only [rowOf, List.getElem?_take] at h
  split at h
  · rename_i hj
    exact ⟨hj, by rwa [List.getElem?_drop] at h⟩
  · cases h

/-- A new variable's object, and its address. -/
def newObj (T : TE) (k : Nat) (t : TypeId) (cs : List AV) : Option (AV × Ob) :=
  match T.find t with
  | some ti => match ti.kind with
    | .array n e => match T.find e with
      | some te => bif Nat.beq cs.length (n * te.size) && Nat.blt 0 n && Nat.ble n 1000000 && AV.ksL (fun _ => false) cs then some (.vptr k 0 te.size 0 0, .vec t te.size 0 n (rowOf cs te.size)) else none
      | none => none
    | _ => some (.ptr k 0, .cells t cs)
  | none => none

def setRowF (f : Nat → List AV) (i off : Nat) (l : List AV) : Nat → List AV := fun j => bif Nat.beq j i then setL (f i) off l else f j

def storeF (T : TE) (ob : Nat → Option Ob) (t : TypeId) (x y : AV) : Option (Nat × Ob) :=
  match T.find t, avCells ob y with
  | some ti, some l => bif Nat.beq l.length ti.size && l.all (oneAV ob) then
      (match x with
       | .ptr k off => match ob k with
         | some (.cells t' cs) => bif Nat.ble (off + l.length) cs.length then some (k, .cells t' (setL cs off l)) else none
         | _ => none
       | .vptr k s sz i off => match ob k with
         | some (.vec e sz' s' n f) => bif Nat.beq s s' && Nat.beq sz sz' && AV.ksL (fun _ => false) l then
             (match ti.kind with
              | .array m _ => bif Nat.beq i 0 && Nat.beq off 0 && Nat.beq m n && Nat.beq l.length (n * sz) then some (k, .vec e sz' s' n (rowOf l sz)) else none
              | _ => bif Nat.ble (off + l.length) sz then some (k, .vec e sz' s' n (setRowF f i off l)) else none) else none
         | _ => none
       | _ => none)
      else none
  | _, _ => none

section
variable {E : Env} {st : ST} {a : Act} {w : World} {ρ : Rho} {T : TE}

theorem newObj_ok (h : SatR E st a w ρ) {k : Nat} {t : TypeId} {cs : List AV} {x : AV} {o : Ob} {arr : Array Value} (hn : newObj T k t cs = some (x, o)) (hk : st.ob k = none) (hs : arr.size = cs.length)
    (hr : ∀ i y, cs[i]? = some y → R w (E.good w ρ) ρ y (arr.getD i undef)) :
    ∃ ρ', SatR E { st with ob := upd st.ob k (some o) } a (w.alloc (.cells arr t)) ρ' ∧ R (w.alloc (.cells arr t)) (E.good (w.alloc (.cells arr t)) ρ') ρ' x (.pointer (some ⟨w.heap.size, 0, none⟩)) := by
  unfold newObj at hn
  split at hn
  · rename_i ti ht
    split at hn
    · rename_i n e hkd
      split at hn
      · rename_i te hte
        cases hb : Nat.beq cs.length (n * te.size) && Nat.blt 0 n && Nat.ble n 1000000 && AV.ksL (fun _ => false) cs with
        | false => simp [hb] at hn
        | true =>
          simp only [hb, cond_true, Option.some.injEq, Prod.mk.injEq] at hn
          obtain ⟨rfl, rfl⟩ := hn
          simp only [Bool.and_eq_true] at hb
          obtain ⟨⟨⟨h1, h2⟩, h3⟩, h4⟩ := hb
          have h1 := Nat.eq_of_beq_eq_true h1
          have h2 : 0 < n := Nat.lt_of_succ_le (Nat.le_of_ble_eq_true h2)
          have h3 := Nat.le_of_ble_eq_true h3
          refine ⟨_, h.allocRow (n := n) (cap := n) (sz := te.size) (f := rowOf cs te.size) hk (Nat.le_refl n) (by simp only [maxLen]; omega) (by omega) (fun i hi => rowOf_length h1 hi) (fun i j y hi hy => ?_), ?_⟩
          · obtain ⟨_, hy'⟩ := rowOf_get hy
            exact (hr _ y hy').free (AV.ksL_at h4 hy')
          · have := R.vptr (w := w.alloc (.cells arr t)) (G := E.good (w.alloc (.cells arr t)) (upd ρ k (some (.hdr 0 (.slice (some ⟨w.heap.size, 0, none⟩) n n))))) (k := k) (s := 0) (sz := te.size) (i := 0) (off := 0) (upd_same ρ k (some (.hdr 0 (.slice (some ⟨w.heap.size, 0, none⟩) n n)))) h2
            simpa using this
      · cases hn
    · simp only [Option.some.injEq, Prod.mk.injEq] at hn
      obtain ⟨rfl, rfl⟩ := hn
      exact ⟨_, h.alloc hk hs hr, .ptr (upd_same _ _ _)⟩
  · cases hn

theorem run_storeVar_at (hT : TOk E.P T) {t : TypeId} {ti : TI} (ht : T.find t = some ti) {v : Value} (hs : v.cells.size = ti.size) (h1 : ∀ i, i < v.cells.size → (v.cells.getD i undef).oneCell' = true)
    {g off : Nat} {cur : Array Value} {e : TypeId} (hh : w.heap[g]? = some (.cells cur e (0, 0))) (hle : off + v.cells.size ≤ cur.size) :
    ∃ cur' : Array Value, (Instr.storeAt t (.pointer (some ⟨g, off, none⟩)) v).run E.P w = .ok () (w.setRow g cur') ∧ cur'.size = cur.size ∧
      ∀ i, cur'.getD i undef = if off ≤ i ∧ i < off + v.cells.size then v.cells.getD (i - off) undef else cur.getD i undef := by
  have hst := run_storeCells_at (P := E.P) g off e v.cells.toList 0 cur w hh (by simpa using hle) (fun u hu => by
    obtain ⟨i, hi, rfl⟩ := List.getElem_of_mem hu
    have := h1 i (by simpa using hi)
    simpa [show i < v.cells.size by simpa using hi] using this)
  refine ⟨(cur.toList.take off ++ v.cells.toList ++ cur.toList.drop (off + v.cells.size)).toArray, ?_, ?_, fun i => ?_⟩
  · simp only [Nat.add_zero, Array.length_toList] at hst
    simp [Instr.storeAt, Instr.sureAddr, storeVar, (hT t ti ht).run_sizeOf w, hs]
    rw [← hs]
    simpa using hst
  · simp
    omega
  · simp only [Array.getD_eq_getD_getElem?, List.getElem?_toArray]
    by_cases hc : off ≤ i ∧ i < off + v.cells.size
    · rw [if_pos hc]
      rw [List.getElem?_append_left (by simp; omega), List.getElem?_append_right (by simp; omega)]
      simp [show min off cur.size = off by omega]
    · rw [if_neg hc]
      by_cases hi : i < off
      · rw [List.getElem?_append_left (by simp; omega), List.getElem?_append_left (by simp; omega)]
        simp [hi]
      · rw [List.getElem?_append_right (by simp; omega)]
        simp only [List.length_append, List.length_take, Array.length_toList, List.getElem?_drop]
        rw [show off + v.cells.size + (i - (min off cur.size + v.cells.size)) = i by omega]
        simp

theorem storeF_ok (hT : TOk E.P T) (h : SatR E st a w ρ) {t : TypeId} {x y : AV} {u v : Value} {k : Nat} {o : Ob} (hs : storeF T st.ob t x y = some (k, o)) (hx : R w (E.good w ρ) ρ x u) (hy : R w (E.good w ρ) ρ y v) :
    ∃ w', (Instr.storeAt t u v).run E.P w = .ok () w' ∧ SatR E { st with ob := upd st.ob k (some o) } a w' ρ := by
  unfold storeF at hs
  split at hs
  · rename_i ti l ht hl
    obtain ⟨hcs, hcr⟩ := h.cells hl hy
    cases hb : Nat.beq l.length ti.size && l.all (oneAV st.ob) with
    | false => simp [hb] at hs
    | true =>
      simp only [hb, cond_true] at hs
      simp only [Bool.and_eq_true] at hb
      have hsz := Nat.eq_of_beq_eq_true hb.1
      have hone : ∀ i, i < v.cells.size → (v.cells.getD i undef).oneCell' = true := fun i hi => by
        have hi' : i < l.length := by omega
        exact h.oneCell (List.all_eq_true.1 hb.2 _ (List.getElem_mem hi')) (hcr i _ (List.getElem?_eq_getElem hi'))
      split at hs
      · rename_i k' off
        split at hs
        · rename_i t' cs ho
          cases hb2 : Nat.ble (off + l.length) cs.length with
          | false => simp [hb2] at hs
          | true =>
            simp only [hb2, cond_true, Option.some.injEq, Prod.mk.injEq] at hs
            obtain ⟨rfl, rfl⟩ := hs
            have hle := Nat.le_of_ble_eq_true hb2
            obtain ⟨g, hk, rfl⟩ := hx.ptr_inv
            obtain ⟨g', arr, hk', hh, hsa, hra⟩ := h.ob k' _ ho
            rw [hk] at hk'
            injection hk' with hk'
            injection hk' with hk'
            subst hk'
            obtain ⟨cur', h1, h2, h3⟩ := run_storeVar_at (E := E) (w := w) hT ht (by omega) hone hh (off := off) (by omega)
            refine ⟨_, h1, h.write ho (setL_length _ _ _) fun g1 arr1 hg1 hh1 _ _ => ?_⟩
            rw [hk] at hg1
            injection hg1 with hg1
            injection hg1 with hg1
            subst hg1
            rw [hh] at hh1
            injection hh1 with hh1
            injection hh1 with hh1
            subst hh1
            refine ⟨cur', rfl, h2, fun i z hz => ?_⟩
            rw [h3 i]
            rw [setL_get _ _ _ _ hle] at hz
            by_cases hc : off ≤ i ∧ i < off + l.length
            · rw [if_pos hc] at hz
              rw [if_pos (by omega)]
              exact hcr _ z hz
            · rw [if_neg hc] at hz
              rw [if_neg (by omega)]
              exact hra i z hz
        · cases hs
      · rename_i k' s sz i off
        split at hs
        · rename_i e sz' s' n f ho
          cases hb2 : Nat.beq s s' && Nat.beq sz sz' && AV.ksL (fun _ => false) l with
          | false => simp [hb2] at hs
          | true =>
            simp only [hb2, cond_true] at hs
            simp only [Bool.and_eq_true] at hb2
            have e1 := Nat.eq_of_beq_eq_true hb2.1.1
            have e2 := Nat.eq_of_beq_eq_true hb2.1.2
            subst e1 e2
            obtain ⟨_, _, _, _, g, cap, cur, ho', hk', rfl, hi, hnc, hm, hh, hsc, hf, hrf⟩ := h.live_vptr (by simp [live, ho]) hx
            rw [ho] at ho'
            injection ho' with ho'
            injection ho' with q1 q2 _ q4 q5
            subst q1 q2 q4 q5
            have hin : (i + 1) * sz ≤ cap * sz := Nat.mul_le_mul_right sz (Nat.le_trans hi hnc)
            rw [Nat.add_mul] at hin
            split at hs
            · rename_i m e' hkd
              cases hb3 : Nat.beq i 0 && Nat.beq off 0 && Nat.beq m n && Nat.beq l.length (n * sz) with
              | false => simp [hb3] at hs
              | true =>
                simp only [hb3, cond_true, Option.some.injEq, Prod.mk.injEq] at hs
                obtain ⟨rfl, rfl⟩ := hs
                simp only [Bool.and_eq_true] at hb3
                have z1 := Nat.eq_of_beq_eq_true hb3.1.1.1
                have z2 := Nat.eq_of_beq_eq_true hb3.1.1.2
                have z4 := Nat.eq_of_beq_eq_true hb3.2
                subst z1 z2
                have hncs := Nat.mul_le_mul_right sz hnc
                obtain ⟨cur', h1, h2, h3⟩ := run_storeVar_at (E := E) (w := w) hT ht (by omega) hone hh (off := 0) (by omega)
                refine ⟨w.setRow g cur', by simpa using h1, h.writeRow ho (fun i hi => rowOf_length z4 hi) (fun g1 cap1 cur1 hg1 hh1 _ _ _ => ?_) hi⟩
                rw [hk'] at hg1
                injection hg1 with hg1
                injection hg1 with _ hg1
                injection hg1 with hg1 _ hg2
                injection hg1 with hg1
                injection hg1 with hg1
                subst hg1 hg2
                rw [hh] at hh1
                injection hh1 with hh1
                injection hh1 with hh1
                subst hh1
                refine ⟨cur', rfl, h2, fun i j z hi' hz => ?_⟩
                obtain ⟨hj, hz'⟩ := rowOf_get hz
                rw [h3, if_pos (by have := (List.getElem?_eq_some_iff.1 hz').1; omega)]
                simp only [Nat.sub_zero]
                exact (hcr _ z hz').free (AV.ksL_at hb2.2 hz')
            · cases hb3 : Nat.ble (off + l.length) sz with
              | false => simp [hb3] at hs
              | true =>
                simp only [hb3, cond_true, Option.some.injEq, Prod.mk.injEq] at hs
                obtain ⟨rfl, rfl⟩ := hs
                have hle := Nat.le_of_ble_eq_true hb3
                obtain ⟨cur', h1, h2, h3⟩ := run_storeVar_at (E := E) (w := w) hT ht (by omega) hone hh (off := i * sz + off) (by omega)
                refine ⟨w.setRow g cur', h1, h.writeRow ho (fun j hj => ?_) (fun g1 cap1 cur1 hg1 hh1 _ _ hrc => ?_) (by omega)⟩
                · unfold setRowF
                  cases hji : Nat.beq j i with
                  | true => rw [cond_true, setL_length]; exact hf i hi
                  | false => rw [cond_false]; exact hf j hj
                · rw [hk'] at hg1
                  injection hg1 with hg1
                  injection hg1 with _ hg1
                  injection hg1 with hg1 _ hg2
                  injection hg1 with hg1
                  injection hg1 with hg1
                  subst hg1 hg2
                  rw [hh] at hh1
                  injection hh1 with hh1
                  injection hh1 with hh1
                  subst hh1
                  refine ⟨cur', rfl, h2, fun j jj z hj hz => ?_⟩
                  rw [h3]
                  unfold setRowF at hz
                  cases hji : Nat.beq j i with
                  | true =>
                    have := Nat.eq_of_beq_eq_true hji
                    subst this
                    rw [hji, cond_true, setL_get _ _ _ _ (by rw [hf j hj]; exact hle)] at hz
                    by_cases hc : off ≤ jj ∧ jj < off + l.length
                    · rw [if_pos hc] at hz
                      rw [if_pos (by omega), show j * sz + jj - (j * sz + off) = jj - off by omega]
                      exact (hcr _ z hz).free (AV.ksL_at hb2.2 hz)
                    · rw [if_neg hc] at hz
                      rw [if_neg (by omega)]
                      exact hrc j jj z hj hz
                  | false =>
                    rw [hji, cond_false] at hz
                    have hne : j ≠ i := fun e => by rw [e] at hji; simp at hji
                    have hjj : jj < sz := by
                      have := (List.getElem?_eq_some_iff.1 hz).1
                      rw [hf j hj] at this; exact this
                    rw [if_neg]
                    · exact hrc j jj z hj hz
                    · rcases Nat.lt_or_gt_of_ne hne with hlt | hgt
                      · have : (j + 1) * sz ≤ i * sz := Nat.mul_le_mul_right sz hlt
                        rw [Nat.add_mul] at this; omega
                      · have : (i + 1) * sz ≤ j * sz := Nat.mul_le_mul_right sz hgt
                        rw [Nat.add_mul] at this; omega
        · cases hs
      · cases hs
  · cases hs
end

end Go.Eng
