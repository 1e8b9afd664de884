/- Strangers: two readings that differ in the numbers of their steps alone. Plain laws. -/
import Derived.Test.YtmnnjllimphjhaaTJ
namespace Go.Proofs.Ytmnnjllimphjhaa
open Go.Eng
set_option maxRecDepth 10000
set_option linter.unusedSimpArgs false
set_option linter.unusedVariables false
/-- The same but for the numbers of steps. -/
structure SO (o o' : Oc) : Prop where
  status : o'.status = o.status
  got : o'.got = o.got
  bearer : o'.bearer = o.bearer
  fr : o'.from_ < 0 ↔ o.from_ < 0
  to : o'.to < 0 ↔ o.to < 0
theorem SO.refl (o : Oc) : SO o o := ⟨rfl, rfl, rfl, Iff.rfl, Iff.rfl⟩
theorem SO.runs {o o' : Oc} (h : SO o o') : runsB o' = runsB o := by
  rw [Bool.eq_iff_iff, runsB_iff, runsB_iff]
  have := h.fr
  have := h.to
  omega
structure SR (k : K) (r r' : Rd) : Prop where
  day : r'.day = r.day
  hold : r'.hold = r.hold
  wait : r'.wait = r.wait
  cnt : r'.cnt = r.cnt
  out : ∀ j, SO (r.out j) (r'.out j)
  hap : ∀ s, (acAt k s).kind ≠ 1 → r'.hap s = r.hap s
  st : 0 ≤ r.steps ∧ 0 ≤ r'.steps
theorem tickOne_sim (x : Cl) (free : Bool) {st st' : Int} (h0 : 0 ≤ st) (h0' : 0 ≤ st') {o o' : Oc} (h : SO o o') (c : Int × Bool) :
    SO (tickOne x free st o c).1 (tickOne x free st' o' c).1 ∧ (tickOne x free st' o' c).2 = (tickOne x free st o c).2 := by
  unfold tickOne
  rw [h.runs]
  split
  · exact ⟨h, rfl⟩
  · split
    · exact ⟨h, rfl⟩
    · split
      · exact ⟨⟨rfl, h.got, h.bearer, h.fr, h.to⟩, rfl⟩
      · exact ⟨⟨rfl, h.got, h.bearer, h.fr, by simp only; omega⟩, rfl⟩
theorem countOne_sim (x : Cl) {st st' : Int} (h0 : 0 ≤ st) (h0' : 0 ≤ st') (doer : Int) (p : Bool) {o o' : Oc} (h : SO o o') :
    SO (countOne x st doer p o).1 (countOne x st' doer p o').1 ∧ (countOne x st' doer p o').2 = (countOne x st doer p o).2 := by
  unfold countOne
  rw [h.bearer, h.got]
  split
  · exact ⟨h, rfl⟩
  · split
    · split
      · exact ⟨⟨h.status, rfl, rfl, h.fr, h.to⟩, rfl⟩
      · exact ⟨⟨rfl, rfl, rfl, h.fr, by simp only; omega⟩, rfl⟩
    · split
      · split
        · exact ⟨h, rfl⟩
        · exact ⟨⟨rfl, rfl, rfl, h.fr, by simp only; omega⟩, rfl⟩
      · exact ⟨⟨rfl, rfl, rfl, h.fr, by simp only; omega⟩, rfl⟩
theorem actOne_sim (x : Cl) (s : Int) (takes : Bool) (doer : Int) {st st' : Int} (h0 : 0 ≤ st) (h0' : 0 ≤ st') {o o' : Oc} (h : SO o o') (p : Bool) :
    SO (actOne x s takes doer st o p).1 (actOne x s takes doer st' o' p).1 ∧ (actOne x s takes doer st' o' p).2 = (actOne x s takes doer st o p).2 := by
  unfold actOne
  rw [h.runs]
  split
  · simp only
    split
    · obtain ⟨h1, h2⟩ := countOne_sim x h0 h0' doer p h
      exact ⟨h1, by rw [h2]⟩
    · exact ⟨h, rfl⟩
  · exact ⟨h, rfl⟩
theorem tickAt_sim {k : K} {r r' : Rd} (h : SR k r r') (free : Bool) (j : Nat) : SO (tickAt k r free j).1 (tickAt k r' free j).1 ∧ (tickAt k r' free j).2 = (tickAt k r free j).2 := by
  unfold tickAt
  rw [h.cnt]
  exact tickOne_sim _ _ h.st.1 h.st.2 (h.out j) _
theorem endedT_sim {k : K} {r r' : Rd} (h : SR k r r') (free : Bool) (n : Nat) : endedT k r' free n = endedT k r free n := by
  unfold endedT
  congr 1
  exact List.filter_congr fun j _ => by rw [(tickAt_sim h free j).2]
theorem tickTo_sim {k : K} {r r' : Rd} (h : SR k r r') (free : Bool) (n : Nat) : SR k (tickTo k r free n) (tickTo k r' free n) := by
  refine ⟨by simp only [tickTo, h.day], h.hold, h.wait, ?_, fun j => ?_, h.hap, h.st⟩
  · funext j
    simp only [tickTo]
    rw [(tickAt_sim h free j).2, h.cnt]
  · simp only [tickTo]
    split
    · exact (tickAt_sim h free j).1
    · exact h.out j
theorem takesB_sim {k : K} {r r' : Rd} (h : SR k r r') (s : Nat) : takesB k r' s = takesB k r s := by
  unfold takesB
  by_cases h1 : (acAt k s).kind = 1
  · rw [h1]; rfl
  · rw [h.hap s h1]
theorem doerOf_sim {k : K} {r r' : Rd} (h : SR k r r') (s : Nat) : doerOf k r' s = doerOf k r s := by
  unfold doerOf
  rw [h.hold]
theorem actAt1_sim {k : K} {r r' : Rd} (h : SR k r r') (s j : Nat) : SO (actAt1 k r s j).1 (actAt1 k r' s j).1 ∧ (actAt1 k r' s j).2 = (actAt1 k r s j).2 := by
  unfold actAt1
  rw [h.cnt, takesB_sim h, doerOf_sim h]
  exact actOne_sim _ _ _ _ h.st.1 h.st.2 (h.out j) _
theorem endedA_sim {k : K} {r r' : Rd} (h : SR k r r') (s n : Nat) : endedA k r' s n = endedA k r s n := by
  unfold endedA
  congr 1
  exact List.filter_congr fun j _ => by rw [(actAt1_sim h s j).2]
theorem actTo_sim {k : K} {r r' : Rd} (h : SR k r r') (s n : Nat) : SR k (actTo k r s n) (actTo k r' s n) := by
  refine ⟨h.day, h.hold, h.wait, ?_, fun j => ?_, fun j hj => ?_, h.st⟩
  · funext j
    simp only [actTo]
    rw [(actAt1_sim h s j).2, h.cnt]
  · simp only [actTo]
    split
    · exact (actAt1_sim h s j).1
    · exact h.out j
  · simp only [actTo]
    rw [h.hap j hj]
theorem actR_sim {k : K} {r r' : Rd} (h : SR k r r') (s : Nat) : SR k (actR k r s) (actR k r' s) := by
  have ht := actTo_sim h s k.clauses.length
  unfold actR
  simp only
  rw [takesB_sim h]
  split
  · exact ht
  · refine ⟨ht.day, ?_, ht.wait, ht.cnt, fun j => ?_, ht.hap, ht.st⟩
    · simp only [novTo]; rw [ht.hold]
    · simp only [novTo]
      rw [(ht.out j).runs]
      split
      · split
        · have := ht.out j
          exact ⟨this.status, this.got, rfl, this.fr, this.to⟩
        · exact ht.out j
      · exact ht.out j
theorem readyB_sim {k : K} {f f' : Nat → Oc} (h : ∀ j, (f' j).status = (f j).status) (i : Nat) : readyB k f' i = readyB k f i := by
  unfold readyB
  simp only [h]
theorem startOne_sim {k : K} {r r' : Rd} (h : SR k r r') (i : Nat) : SO (startOne k r i) (startOne k r' i) := by
  have := h.out i
  refine ⟨rfl, this.got, ?_, ?_, this.to⟩
  · simp only [startOne]; rw [h.hold, this.bearer]
  · simp only [startOne]; have := h.st; omega
structure SI (k : K) (s s' : Rd × List Int × List Int) : Prop where
  r : SR k s.1 s'.1
  l : s'.2 = s.2
theorem istep_sim {k : K} {s s' : Rd × List Int × List Int} (h : SI k s s') (z : Int) : SI k (istep k s z) (istep k s' z) := by
  obtain ⟨r, l⟩ := s
  obtain ⟨r', l'⟩ := s'
  have hr := h.r
  have hl : l' = l := h.l
  subst hl
  simp only at hr
  unfold istep
  simp only
  rw [readyB_sim fun j => (hr.out j).status]
  split
  · exact ⟨hr, rfl⟩
  · have hf := (hr.out z.toNat).fr
    by_cases h1 : 0 ≤ (r.out z.toNat).from_
    · rw [if_pos h1, if_pos (by omega)]
      exact ⟨hr, rfl⟩
    · rw [if_neg h1, if_neg (by omega)]
      refine ⟨⟨hr.day, hr.hold, hr.wait, hr.cnt, fun j => ?_, hr.hap, hr.st⟩, rfl⟩
      simp only [Rd.upOut]
      split
      · exact startOne_sim hr _
      · exact hr.out j
theorem innerTo_sim {k : K} {r r' : Rd} (h : SR k r r') (kn ws : List Int) : ∀ p, SI k (innerTo k r kn ws p) (innerTo k r' kn ws p)
  | 0 => ⟨h, rfl⟩
  | p + 1 => istep_sim (innerTo_sim h kn ws p) _
theorem roundR_sim {k : K} {r r' : Rd} (h : SR k r r') (kn : List Int) (n : Nat) : SR k (roundR k r kn n).1 (roundR k r' kn n).1 ∧ (roundR k r' kn n).2 = (roundR k r kn n).2 := by
  unfold roundR
  rw [h.wait]
  have hi := innerTo_sim h kn (r.wait (kn.getD n default)) (r.wait (kn.getD n default)).length
  refine ⟨⟨hi.r.day, hi.r.hold, ?_, hi.r.cnt, hi.r.out, hi.r.hap, hi.r.st⟩, by rw [hi.l]⟩
  simp only [putWait]
  rw [hi.l, hi.r.wait]
theorem runS_sim {k : K} : ∀ (f n : Nat) (r r' : Rd) (kn : List Int), SR k r r' → SR k (runS k f n r kn) (runS k f n r' kn)
  | 0, _, _, _, _, h => h
  | f + 1, n, r, r', kn, h => by
    rw [runS, runS]
    split
    · obtain ⟨h1, h2⟩ := roundR_sim h kn n
      rw [h2]
      exact runS_sim f (n + 1) _ _ _ h1
    · exact h
theorem startR_sim {k : K} {r r' : Rd} (h : SR k r r') (kn : List Int) : SR k (startR k r kn) (startR k r' kn) := by
  unfold startR
  have : unst k r'.out = unst k r.out := by
    unfold unst
    exact List.countP_congr fun j _ => by simp only [decide_eq_true_eq]; exact (h.out j).fr
  rw [this]
  exact runS_sim _ _ _ _ _ h
theorem stepR_sim {k : K} {r r' : Rd} (h : SR k r r') (s : Int) : SR k (stepR k r s) (stepR k r' s) := by
  have h1 : SR k { r with steps := r.steps + 1 } { r' with steps := r'.steps + 1 } := ⟨h.day, h.hold, h.wait, h.cnt, h.out, h.hap, by have := h.st; simp only; omega⟩
  unfold stepR
  split
  · rw [show freeB k r'.day = freeB k r.day by rw [h.day], endedT_sim h1]
    exact startR_sim (tickTo_sim h1 _ _) _
  · rw [endedA_sim h1]
    exact startR_sim (actR_sim h1 _) _
/-- Whether a clause names an act, or it assigns or novates. -/
def namedB (k : K) (s : Int) : Bool := k.clauses.any (fun x => x.act == s || x.pause == s || x.resume == s) || ((acAt k s.toNat).kind == 2 || (acAt k s.toNat).kind == 3)
theorem stranger_sim {k : K} (hk : KFacts k) {r r' : Rd} (h : SR k r r') {s : Int} (hs : 0 ≤ s ∧ s < k.acts.length) (hn : namedB k s = false) : SR k (stepR k r s) r' := by
  simp only [namedB, Bool.or_eq_false_iff, List.any_eq_false] at hn
  obtain ⟨hn1, hn2⟩ := hn
  have hk1 : (acAt k s.toNat).kind = 1 := by
    have := act_kind (hk.act s.toNat (by omega))
    simp at hn2
    omega
  have hcl : ∀ j, j < k.clauses.length → (clAt k j).act ≠ s ∧ (clAt k j).pause ≠ s ∧ (clAt k j).resume ≠ s := by
    intro j hj
    have := hn1 (clAt k j) (by simp only [clAt, List.getD_eq_getElem?_getD, List.getElem?_eq_getElem hj, Option.getD_some]; exact List.getElem_mem hj)
    simp at this
    omega
  have hat : ∀ j, j < k.clauses.length → actAt1 k { r with steps := r.steps + 1 } s.toNat j = (r.out j, (r.cnt j).2, false) := by
    intro j hj
    obtain ⟨c1, c2, c3⟩ := hcl j hj
    have e : ((s.toNat : Nat) : Int) = s := Int.toNat_of_nonneg hs.1
    unfold actAt1 actOne
    rw [e]
    simp only
    split
    · simp [c1, c2, c3]
    · rfl
  have hend : endedA k { r with steps := r.steps + 1 } s.toNat k.clauses.length = [] := by
    unfold endedA
    rw [List.map_eq_nil_iff, List.filter_eq_nil_iff]
    intro j hj
    rw [hat j (List.mem_range.1 hj)]
    simp
  have hrun : ∀ f (r : Rd), runS k f 0 r [] = r := by
    intro f r
    cases f
    · rfl
    · rw [runS, if_neg (by simp)]
  rw [stepR, if_neg (by omega), hend, startR, hrun, actR]
  try simp only
  rw [if_pos (.inr hk1)]
  refine ⟨h.day, h.hold, h.wait, ?_, fun j => ?_, fun j hj => ?_, by have := h.st; simp only [actTo]; omega⟩
  · rw [h.cnt]
    funext j
    simp only [actTo]
    split
    · rename_i hj; rw [hat j hj]
    · rfl
  · simp only [actTo]
    split
    · rename_i hj; rw [hat j hj]; exact h.out j
    · exact h.out j
  · simp only [actTo]
    rw [h.hap j hj, if_neg (by rintro rfl; exact hj hk1)]
/-- The steps that are named, of the first n. -/
def fl (k : K) (l : List Int) : Nat → List Int
  | 0 => []
  | n + 1 => if l.getD n default = -1 ∨ namedB k (l.getD n default) = true then fl k l n ++ [l.getD n default] else fl k l n
theorem fl_len (k : K) (l : List Int) : ∀ n, (fl k l n).length ≤ n
  | 0 => Nat.le_refl _
  | n + 1 => by
    have := fl_len k l n
    rw [fl]
    split
    · simp; omega
    · omega
theorem followR_app (k : K) (L : List Int) (s : Int) : followR k (L ++ [s]) (L ++ [s]).length = stepR k (followR k L L.length) s := by
  have h1 : (L ++ [s]).length = L.length + 1 := by simp
  rw [h1]
  show stepR k (followR k (L ++ [s]) L.length) ((L ++ [s]).getD L.length default) = _
  have h2 := followR_take k (L ++ [s]) L.length L.length (Nat.le_refl _)
  rw [List.take_left] at h2
  rw [← h2]
  congr 1
  simp [List.getD]
theorem stranger {k : K} (hk : KFacts k) {l : List Int} (hl : stepsOk k l) (h9 : l.length < 900000) : ∀ n, n ≤ l.length → SR k (followR k l n) (followR k (fl k l n) (fl k l n).length)
  | 0, _ => by
    have h0 := (beginR_ok hk).2
    refine ⟨rfl, rfl, rfl, rfl, fun j => SO.refl _, fun _ _ => rfl, ?_⟩
    show 0 ≤ (beginR k).steps ∧ 0 ≤ (beginR k).steps
    omega
  | n + 1, hn => by
    have ih := stranger hk hl h9 n (by omega)
    rw [fl]
    split
    · rw [followR_app]
      exact stepR_sim ih _
    · rename_i h1
      have hs := (hl n (by omega)).resolve_left fun h => h1 (.inl h)
      exact stranger_sim hk ih hs (by cases h : namedB k (l.getD n default); rfl; exact absurd (.inr h) h1)
theorem daysTo_app (L : List Int) (s : Int) : daysTo (L ++ [s]) L.length = daysTo L L.length := by
  have := daysTo_take (L ++ [s]) L.length L.length (Nat.le_refl _)
  rw [List.take_left] at this
  exact this.symm
theorem fl_days (k : K) (l : List Int) : ∀ n, daysTo (fl k l n) (fl k l n).length = daysTo l n
  | 0 => rfl
  | n + 1 => by
    have ih := fl_days k l n
    rw [fl]
    split
    · have h1 : (fl k l n ++ [l.getD n default]).length = (fl k l n).length + 1 := by simp
      rw [h1]
      simp only [daysTo]
      rw [daysTo_app, ih]
      have : (fl k l n ++ [l.getD n default]).getD (fl k l n).length default = l.getD n default := by simp [List.getD]
      rw [this]
    · rename_i h1
      rw [ih, daysTo, if_neg fun h => h1 (.inl h)]
theorem fl_err {k : K} {l : List Int} : ∀ n, stepErr k l n = 0 → stepErr k (fl k l n) (fl k l n).length = 0
  | 0, _ => rfl
  | n + 1, h => by
    rw [stepErr] at h
    split at h
    · rename_i h1; exact absurd h h1
    · rename_i h1
      have ih := fl_err (k := k) (l := l) n (by simpa using h1)
      rw [fl]
      split
      · have h2 : (fl k l n ++ [l.getD n default]).length = (fl k l n).length + 1 := by simp
        have h3 : (fl k l n ++ [l.getD n default]).getD (fl k l n).length default = l.getD n default := by simp [List.getD]
        have h4 : stepErr k (fl k l n ++ [l.getD n default]) (fl k l n).length = 0 := by
          have := stepErr_take k (fl k l n ++ [l.getD n default]) (fl k l n).length (fl k l n).length (Nat.le_refl _)
          rw [List.take_left] at this
          rw [← this]; exact ih
        rw [h2, stepErr, if_neg (by rw [h4]; simp), h3, daysTo_app, fl_days]
        exact h
      · exact ih
theorem checkR_fl {k : K} {l : List Int} (h : checkR k l = 0) : checkR k (fl k l l.length) = 0 := by
  have hl := fl_len k l l.length
  unfold checkR at h ⊢
  split at h
  · cases h
  · rename_i h1
    split at h
    · cases h
    · rw [if_neg h1, if_neg (by omega)]
      exact fl_err _ h
end Go.Proofs.Ytmnnjllimphjhaa
