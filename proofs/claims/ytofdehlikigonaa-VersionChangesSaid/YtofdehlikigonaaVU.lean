/- The plain law of version.Days. -/
import Derived.Test.YtofdehlikigonaaGA
namespace Go.Proofs.Ytofdehlikigonaa
open Go.Eng
set_option maxRecDepth 10000
set_option linter.unusedSimpArgs false
set_option linter.unusedVariables false
/-- What the amendments make of the contract. -/
noncomputable def val (k : K) (P : List Am) : K := (P.foldl stepA (k, [])).1
theorem val_snoc (k : K) (P : List Am) (a : Am) : val k (P ++ [a]) = (stepA (val k P, []) a).1 := by
  unfold val
  rw [List.foldl_append]
  show (stepA (P.foldl stepA (k, [])) a).1 = _
  rw [show P.foldl stepA (k, []) = ((P.foldl stepA (k, [])).1, (P.foldl stepA (k, [])).2) from rfl, stepA_num]
theorem stepA_with (s : K × List Int) (a : Am) : (stepA s a).1 = { s.1 with clauses := (stepA s a).1.clauses } := by
  unfold stepA
  split
  · rename_i h
    rcases applyR_cases s.1 a.patch with ⟨h2, _⟩ | ⟨_, _, h2, _⟩
    · exact absurd h h2
    · rw [h2]
  · rfl
theorem fold_with : ∀ (l : List Am) (s : K × List Int), (l.foldl stepA s).1 = { s.1 with clauses := (l.foldl stepA s).1.clauses }
  | [], s => rfl
  | a :: l, s => by
    have h := fold_with l (stepA s a)
    have h2 := stepA_with s a
    rw [List.foldl_cons]
    generalize l.foldl stepA (stepA s a) = x at *
    rw [h2] at h
    exact h
theorem val_same (k : K) (P Q : List Am) : sameK (val k P) (val k Q) = true ↔ val k P = val k Q := by
  have h1 := fold_with P (k, [])
  have h2 := fold_with Q (k, [])
  have h3 : sameK (val k P) (val k Q) = true ↔ (val k P).clauses = (val k Q).clauses := listB_iff clB_iff
  rw [h3]
  constructor
  · intro h
    unfold val at h ⊢
    rw [h1, h2, h]
  · intro h; rw [h]
structure FinI (k : K) (P : List Am) (D : List Int) : Prop where
  inc : D.Pairwise (· < ·)
  diff : ∀ d ∈ D, val k (P.filter (fun a => decide (a.day ≤ d))) ≠ val k (P.filter (fun a => decide (a.day < d)))
  same : ∀ d, d ∉ D → val k (P.filter (fun a => decide (a.day ≤ d))) = val k (P.filter (fun a => decide (a.day < d)))
structure DyI (k : K) (P : List Am) (s : DyS) : Prop where
  now : s.now = val k P
  none : P = [] → s.days = []
  le : ∀ a ∈ P, a.day ≤ s.day
  at_ : P ≠ [] → ∃ a ∈ P, a.day = s.day
  before : s.before = val k (P.filter (fun a => decide (a.day < s.day)))
  inc : s.days.Pairwise (· < ·)
  lt : ∀ d ∈ s.days, d < s.day
  diff : ∀ d ∈ s.days, val k (P.filter (fun a => decide (a.day ≤ d))) ≠ val k (P.filter (fun a => decide (a.day < d)))
  same : ∀ d, d < s.day → d ∉ s.days → val k (P.filter (fun a => decide (a.day ≤ d))) = val k (P.filter (fun a => decide (a.day < d)))
theorem filt_all {P : List Am} {p : Am → Bool} (h : ∀ a ∈ P, p a = true) : P.filter p = P := List.filter_eq_self.2 h
theorem DyI.fin {k : K} {P : List Am} {s : DyS} (h : DyI k P s) : FinI k P (finD s).days ∧ (finD s).now = val k P ∧ (P = [] → (finD s).days = []) ∧ ∀ d ∈ (finD s).days, d ≤ s.day := by
  have hle : P.filter (fun a => decide (a.day ≤ s.day)) = P := filt_all fun a ha => by have := h.le a ha; simpa using this
  have hgt : ∀ d, s.day < d → P.filter (fun a => decide (a.day ≤ d)) = P ∧ P.filter (fun a => decide (a.day < d)) = P := fun d hd =>
    ⟨filt_all fun a ha => by have := h.le a ha; simp only [decide_eq_true_eq]; omega, filt_all fun a ha => by have := h.le a ha; simp only [decide_eq_true_eq]; omega⟩
  have hs := val_same k (P.filter (fun a => decide (a.day < s.day))) P
  rw [← h.before, ← h.now] at hs
  unfold finD
  by_cases hb : sameK s.before s.now = true
  · rw [if_pos hb]
    have he := hs.1 hb
    refine ⟨⟨h.inc, h.diff, fun d hd => ?_⟩, h.now, h.none, fun d hd => by have := h.lt d hd; omega⟩
    rcases Int.lt_trichotomy d s.day with h1 | h1 | h1
    · exact h.same d h1 hd
    · subst h1; rw [hle, ← h.before, ← h.now, he]
    · rw [(hgt d h1).1, (hgt d h1).2]
  · rw [if_neg hb]
    have he : s.before ≠ s.now := fun e => hb (hs.2 e)
    refine ⟨⟨List.pairwise_append.2 ⟨h.inc, List.pairwise_singleton _ _, fun x hx y hy => ?_⟩, fun d hd => ?_, fun d hd => ?_⟩, h.now, fun hP => ?_, fun d hd => ?_⟩
    · cases List.mem_singleton.1 hy; exact h.lt x hx
    · rcases List.mem_append.1 hd with hd | hd
      · exact h.diff d hd
      · cases List.mem_singleton.1 hd
        rw [hle, ← h.before, ← h.now]; exact fun e => he e.symm
    · have h2 : d ∉ s.days ∧ d ≠ s.day := ⟨fun e => hd (List.mem_append_left _ e), fun e => hd (List.mem_append_right _ (List.mem_singleton.2 e))⟩
      rcases Int.lt_trichotomy d s.day with h1 | h1 | h1
      · exact h.same d h1 h2.1
      · exact absurd h1 h2.2
      · rw [(hgt d h1).1, (hgt d h1).2]
    · exfalso
      apply he
      rw [h.before, h.now, hP]; rfl
    · rcases List.mem_append.1 hd with hd | hd
      · have := h.lt d hd; omega
      · cases List.mem_singleton.1 hd; omega
theorem appD_now (s : DyS) (a : Am) : appD s a = ⟨s.before, (stepA (s.now, []) a).1, s.days, s.day⟩ := by
  unfold appD stepA
  split <;> rfl
theorem filt_snoc_le {P : List Am} {a : Am} {d : Int} (h : d < a.day) : (P ++ [a]).filter (fun a => decide (a.day ≤ d)) = P.filter (fun a => decide (a.day ≤ d)) := by
  rw [List.filter_append, List.filter_cons_of_neg (by simp only [decide_eq_true_eq]; omega), List.filter_nil, List.append_nil]
theorem filt_snoc_lt {P : List Am} {a : Am} {d : Int} (h : d ≤ a.day) : (P ++ [a]).filter (fun a => decide (a.day < d)) = P.filter (fun a => decide (a.day < d)) := by
  rw [List.filter_append, List.filter_cons_of_neg (by simp only [decide_eq_true_eq]; omega), List.filter_nil, List.append_nil]
theorem DyI.step {k : K} {P : List Am} {s : DyS} (h : DyI k P s) {a : Am} (ha : ∀ b ∈ P, b.day ≤ a.day) : DyI k (P ++ [a]) (stepD s a) := by
  unfold stepD
  rw [appD_now]
  by_cases hd : a.day ≠ s.day
  · rw [if_pos hd]
    obtain ⟨f1, f2, f3, f4⟩ := h.fin
    have hlt : ∀ b ∈ P, b.day < a.day := fun b hb => by
      obtain ⟨c, hc, e⟩ := h.at_ (List.ne_nil_of_mem hb)
      have := ha c hc
      have := h.le b hb
      omega
    have hD : ∀ d ∈ (finD s).days, d < a.day := fun d hd' => by
      by_cases hP : P = []
      · rw [f3 hP] at hd'; cases hd'
      · obtain ⟨c, hc, e⟩ := h.at_ hP
        have := ha c hc
        have := f4 d hd'
        omega
    refine ⟨?_, fun e => by simp at e, fun b hb => ?_, fun _ => ⟨a, by simp, rfl⟩, ?_, f1.inc, hD, fun d hd' => ?_, fun d hd1 hd2 => ?_⟩
    · show (stepA ((finD s).now, []) a).1 = _
      rw [f2, val_snoc]
    · rcases List.mem_append.1 hb with hb | hb
      · exact ha b hb
      · cases List.mem_singleton.1 hb; exact Int.le_refl _
    · show (finD s).before = val k ((P ++ [a]).filter (fun b => decide (b.day < a.day)))
      rw [filt_snoc_lt (Int.le_refl _), filt_all fun b hb => by have := hlt b hb; simpa using this, ← f2]
      rfl
    · rw [filt_snoc_le (hD d hd'), filt_snoc_lt (Int.le_of_lt (hD d hd'))]; exact f1.diff d hd'
    · have hd1 : d < a.day := hd1
      rw [filt_snoc_le hd1, filt_snoc_lt (Int.le_of_lt hd1)]; exact f1.same d hd2
  · rw [if_neg hd]
    have hd : a.day = s.day := by omega
    refine ⟨?_, fun e => by simp at e, fun b hb => ?_, fun _ => ⟨a, by simp, hd⟩, ?_, h.inc, h.lt, fun d hd' => ?_, fun d hd1 hd2 => ?_⟩
    · show (stepA (s.now, []) a).1 = _
      rw [h.now, val_snoc]
    · rcases List.mem_append.1 hb with hb | hb
      · exact h.le b hb
      · cases List.mem_singleton.1 hb; exact Int.le_of_eq hd
    · show s.before = val k ((P ++ [a]).filter (fun b => decide (b.day < s.day)))
      rw [filt_snoc_lt (by omega)]; exact h.before
    · have := h.lt d hd'
      rw [filt_snoc_le (by omega), filt_snoc_lt (by omega)]; exact h.diff d hd'
    · have hd1 : d < s.day := hd1
      rw [filt_snoc_le (by omega), filt_snoc_lt (by omega)]; exact h.same d hd1 hd2
theorem DyI.fold {k : K} : ∀ {Q P : List Am} {s : DyS}, DyI k P s → (P ++ Q).Pairwise (fun a b => a.day ≤ b.day) → DyI k (P ++ Q) (Q.foldl stepD s)
  | [], P, s, h, _ => by rw [List.append_nil]; exact h
  | a :: Q, P, s, h, hp => by
    have h1 := h.step (a := a) fun b hb => (List.pairwise_append.1 hp).2.2 b hb a (.head _)
    have e : P ++ a :: Q = (P ++ [a]) ++ Q := by simp
    rw [e] at hp ⊢
    exact DyI.fold (Q := Q) (P := P ++ [a]) h1 hp
theorem stD_fold (l : List Am) (k : K) (known : Int) : ∀ {i : Nat}, i ≤ l.length → stD l k known i = (((seqA l).take i).filter (fun a => decide (a.known ≤ known))).foldl stepD ⟨k, k, [], 0⟩
  | 0, _ => rfl
  | i + 1, hi => by
    have ih := stD_fold l k known (show i ≤ l.length by omega)
    have h1 : i < (seqA l).length := by rw [seqA_len]; omega
    have e : (seqA l).getD i default = amAt l i := by rw [List.getD_eq_getElem?_getD, seqA_at l (show i < l.length by omega)]; rfl
    rw [stD, ih, filter_snoc h1, e]
    by_cases h : known < (amAt l i).known
    · rw [if_pos h, if_neg (by simp only [decide_eq_true_eq]; omega)]
    · rw [if_neg h, if_pos (by simp only [decide_eq_true_eq]; omega), List.foldl_append]; rfl
/-- The amendments that are known, in the order. -/
def knownA (l : List Am) (known : Int) : List Am := (seqA l).filter (fun a => decide (a.known ≤ known))
theorem days_fin (k : K) (l : List Am) (known : Int) : FinI k (knownA l known) (finD (stD l k known l.length)).days := by
  rw [stD_fold l k known (Nat.le_refl _), List.take_of_length_le (by rw [seqA_len]; exact Nat.le_refl _)]
  have h0 : DyI k [] ⟨k, k, [], 0⟩ := ⟨rfl, fun _ => rfl, fun _ h => (nomatch h), fun h => absurd rfl h, rfl, List.Pairwise.nil, fun _ h => (nomatch h), fun _ h => (nomatch h), fun _ _ _ => rfl⟩
  have := (DyI.fold (Q := knownA l known) h0 (by rw [List.nil_append]; exact (seqA_days l).filter _)).fin
  rw [List.nil_append] at this
  exact this.1
theorem force_val (k : K) (l : List Am) (day known : Int) : (forceF k l day known).1 = val k ((knownA l known).filter (fun a => decide (a.day ≤ day))) := by
  unfold forceF knownA val
  rw [List.filter_filter]
  congr 3
  funext a
  unfold counts
  rw [Bool.and_comm]
end Go.Proofs.Ytofdehlikigonaa
