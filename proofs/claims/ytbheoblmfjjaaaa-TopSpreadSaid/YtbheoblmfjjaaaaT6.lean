import Derived.Test.YtbheoblmfjjaaaaT5
import Derived.Test.YtbheoblmfjjaaaaT3
section
/- Plain laws: what is owed as a rational number; more defaults, more is owed. -/
namespace Go.Proofs.Ytbheoblmfjjaaaa
open Go.Eng
set_option maxRecDepth 10000
set_option linter.unusedSimpArgs false
set_option linter.unusedVariables false
theorem S_le {g h : Nat → Rat} {n : Nat} (hh : ∀ i, i < n → g i ≤ h i) : S g n ≤ S h n := by
  induction n with
  | zero => exact Rat.le_refl
  | succ n ih =>
    have h1 := ih fun i hi => hh i (by omega)
    have h2 := hh n (by omega)
    simp only [S]
    grind
theorem S_set {g : Nat → Rat} {a : Rat} {k : Nat} : ∀ {n}, k < n → S (fun j => if j = k then a else g j) n = S g n - g k + a
  | 0, h => absurd h (Nat.not_lt_zero _)
  | n + 1, h => by
    by_cases hk : k = n
    · subst hk
      have : S (fun j => if j = k then a else g j) k = S g k := S_congr fun i hi => if_neg (by omega)
      simp only [S, this, if_true]
      grind
    · have := S_set (g := g) (a := a) (k := k) (n := n) (by omega)
      simp only [S, this]
      rw [if_neg (by omega)]
      grind
theorem S_rot (h : Nat → Rat) (n t : Nat) (hn : 0 < n) : S (fun i => h ((i + t) % n)) n = S h n := by
  have hr : t % n < n := Nat.mod_lt _ hn
  have e : ∀ i, (i + t) % n = (i + t % n) % n := fun i => by rw [Nat.add_mod, Nat.add_mod i (t % n), Nat.mod_mod]
  have e0 : S (fun i => h ((i + t) % n)) n = S (fun i => h ((i + t % n) % n)) n := S_congr fun i _ => by rw [e]
  rw [e0]
  generalize t % n = r at *
  obtain ⟨m, rfl⟩ : ∃ m, n = m + r := ⟨n - r, by omega⟩
  rw [S_cat (fun i => h ((i + r) % (m + r))) m r]
  have h1 : S (fun i => h ((i + r) % (m + r))) m = S (fun i => h (r + i)) m := S_congr fun i hi => by
    rw [Nat.mod_eq_of_lt (by omega), Nat.add_comm]
  have h2 : S (fun j => h ((m + j + r) % (m + r))) r = S h r := S_congr fun i hi => by
    rw [show m + i + r = i + (m + r) by omega, Nat.add_mod_right, Nat.mod_eq_of_lt (by omega)]
  show S (fun i => h ((i + r) % (m + r))) m + S (fun j => h ((m + j + r) % (m + r))) r = _
  rw [h1, h2, Nat.add_comm m r, S_cat h r m]
  grind
/-- What a debt adds. -/
def wt (f t : Int) (x : Db) : Rat := if selB f t x = true then rt x.amt else 0
def sumD (f t : Int) (l : List Db) : Rat := S (fun j => wt f t (l.getD j default)) l.length
theorem addS_val {s : Q × Int} {a : Q} (h : (addS s a).2 = 0) : s.2 = 0 ∧ qOk (addS s a).1 = true ∧ rt (addS s a).1 = rt s.1 + rt a := by
  unfold addS at h ⊢
  split at h
  · rename_i h1; exact absurd h h1
  · rename_i h1
    rw [if_neg h1]
    exact ⟨by simpa using h1, (addR_ok h).2⟩
theorem eachD_val {f t : Int} {l : List Db} {s : Q × Int} (hs : qOk s.1 = true) : ∀ i, (eachD f t l s i).2 = 0 → s.2 = 0 ∧ qOk (eachD f t l s i).1 = true ∧ rt (eachD f t l s i).1 = rt s.1 + S (fun j => wt f t (l.getD j default)) i
  | 0, h => ⟨h, hs, by show rt s.1 = rt s.1 + 0; grind⟩
  | i + 1, h => by
    rw [eachD] at h ⊢
    simp only [S]
    split at h
    · rename_i h1
      rw [if_pos h1]
      obtain ⟨a1, a2, a3⟩ := addS_val h
      obtain ⟨b1, b2, b3⟩ := eachD_val hs i a1
      refine ⟨b1, a2, ?_⟩
      rw [a3, b3]
      unfold wt
      rw [if_pos h1]
      grind
    · rename_i h1
      rw [if_neg h1]
      obtain ⟨b1, b2, b3⟩ := eachD_val hs i h
      refine ⟨b1, b2, ?_⟩
      rw [b3]
      unfold wt
      rw [if_neg h1]
      grind
theorem eachL_val {p : Pf} {f t : Int} {s : Q × Int} (hs : qOk s.1 = true) : ∀ n, (eachL p f t s n).2 = 0 → s.2 = 0 ∧ qOk (eachL p f t s n).1 = true ∧ rt (eachL p f t s n).1 = rt s.1 + S (fun j => sumD f t (listAt p j)) n
  | 0, h => ⟨h, hs, by show rt s.1 = rt s.1 + 0; grind⟩
  | n + 1, h => by
    rw [eachL] at h ⊢
    by_cases h0 : (eachL p f t s n).2 = 0
    · obtain ⟨b1, b2, b3⟩ := eachL_val hs n h0
      obtain ⟨c1, c2, c3⟩ := eachD_val b2 _ h
      refine ⟨b1, c2, ?_⟩
      rw [c3, b3]
      simp only [S]
      unfold sumD
      grind
    · exfalso
      have key : ∀ i, (eachD f t (listAt p n) (eachL p f t s n) i).2 ≠ 0 := by
        intro i
        induction i with
        | zero => exact h0
        | succ i ih =>
          rw [eachD]
          split
          · unfold addS
            rw [if_pos ih]
            exact ih
          · exact ih
      exact key _ h
def eV (p : Pf) (d : Nat → Bool) (f t : Int) : Rat := sumD f t p.due + (if lateB p f d = true then sumD f t p.later else 0)
theorem eachR_val {p : Pf} {d : Nat → Bool} {f t : Int} {s : Q × Int} (hs : qOk s.1 = true) (h : (eachR p d f t s).2 = 0) : s.2 = 0 ∧ qOk (eachR p d f t s).1 = true ∧ rt (eachR p d f t s).1 = rt s.1 + eV p d f t := by
  unfold eachR at h ⊢
  obtain ⟨a1, a2, a3⟩ := eachL_val hs _ h
  refine ⟨a1, a2, ?_⟩
  rw [a3]
  unfold eV listN
  by_cases hl : lateB p f d = true
  · rw [if_pos hl, if_pos hl]
    show rt s.1 + (0 + sumD f t p.due + sumD f t p.later) = _
    grind
  · rw [if_neg hl, if_neg hl]
    show rt s.1 + (0 + sumD f t p.due) = _
    grind
def gV (p : Pf) (x : Int) (d : Nat → Bool) (g : Gu) : Rat := if gSel x d g = true then eV p d g.for_ g.to else 0
def owV (p : Pf) (x : Int) (d : Nat → Bool) : Rat := eV p d x (-1) + S (fun i => gV p x d (p.gs.getD i default)) p.gs.length
theorem owedT_val {p : Pf} {x : Int} {d : Nat → Bool} : ∀ n, (owedT p x d n).2 = 0 → qOk (owedT p x d n).1 = true ∧ rt (owedT p x d n).1 = eV p d x (-1) + S (fun i => gV p x d (p.gs.getD i default)) n
  | 0, h => by
    obtain ⟨_, a2, a3⟩ := eachR_val (s := ((0, 1), 0)) zeroQ_ok h
    refine ⟨a2, ?_⟩
    show rt (eachR p d x (-1) ((0, 1), 0)).1 = eV p d x (-1) + 0
    rw [a3, rt_zero]
    grind
  | n + 1, h => by
    rw [owedT] at h ⊢
    simp only [S]
    split at h
    · rename_i h1
      rw [if_pos h1]
      have h0 : (owedT p x d n).2 = 0 := by
        apply Classical.byContradiction
        intro h2
        have k1 : ∀ l i, (eachD (p.gs.getD n default).for_ (p.gs.getD n default).to l (owedT p x d n) i).2 ≠ 0 ∧ True := by
          intro l i
          induction i with
          | zero => exact ⟨h2, trivial⟩
          | succ i ih =>
            rw [eachD]
            split
            · unfold addS
              rw [if_pos ih.1]
              exact ih
            · exact ih
        have key : ∀ {f t : Int} {l : List Db} {s : Q × Int}, s.2 ≠ 0 → ∀ i, (eachD f t l s i).2 ≠ 0 := by
          intro f t l s hs i
          induction i with
          | zero => exact hs
          | succ i ih =>
            rw [eachD]
            split
            · unfold addS
              rw [if_pos ih]
              exact ih
            · exact ih
        have key2 : ∀ {f t : Int} {s : Q × Int}, s.2 ≠ 0 → ∀ i, (eachL p f t s i).2 ≠ 0 := by
          intro f t s hs i
          induction i with
          | zero => exact hs
          | succ i ih => exact key ih _
        exact key2 h2 _ h
      obtain ⟨b1, b2⟩ := owedT_val n h0
      obtain ⟨_, c2, c3⟩ := eachR_val b1 h
      refine ⟨c2, ?_⟩
      rw [c3, b2]
      unfold gV
      rw [if_pos h1]
      grind
    · rename_i h1
      rw [if_neg h1]
      obtain ⟨b1, b2⟩ := owedT_val n h
      refine ⟨b1, ?_⟩
      rw [b2]
      unfold gV
      rw [if_neg h1]
      grind
theorem owedR_val {p : Pf} {x : Int} {d : Nat → Bool} (h : (owedR p x d).2 = 0) : qOk (owedR p x d).1 = true ∧ rt (owedR p x d).1 = owV p x d := by
  unfold owedR at h ⊢
  split at h
  · rename_i h1; exact absurd h h1
  · rename_i h1
    rw [if_neg h1]
    exact owedT_val _ (by simpa using h1)
/-- More defaults: more is owed. -/
def amtOk (l : List Db) : Prop := ∀ i, i < l.length → 0 ≤ rt (l.getD i default).amt
theorem wt_nn {f t : Int} {x : Db} (h : 0 ≤ rt x.amt) : 0 ≤ wt f t x := by
  unfold wt
  split
  · exact h
  · exact Rat.le_refl
theorem sumD_nn {f t : Int} {l : List Db} (h : amtOk l) : 0 ≤ sumD f t l := by
  have := S_le (g := fun _ => 0) (h := fun j => wt f t (l.getD j default)) (n := l.length) fun i hi => wt_nn (h i hi)
  rw [S_zero (fun _ _ => rfl)] at this
  exact this
def Sub12 (d e : Nat → Bool) : Prop := ∀ j, d j = true → e j = true
theorem lateB_mono {p : Pf} {x : Int} {d e : Nat → Bool} (h : Sub12 d e) (hl : lateB p x d = true) : lateB p x e = true := by
  obtain ⟨i, hi, h1⟩ := lateB_iff.1 hl
  rw [Bool.and_eq_true] at h1
  exact lateB_iff.2 ⟨i, hi, by rw [Bool.and_eq_true]; exact ⟨h1.1, h _ h1.2⟩⟩
theorem eV_mono {p : Pf} {d e : Nat → Bool} (h : Sub12 d e) (ha : amtOk p.later) (f t : Int) : eV p d f t ≤ eV p e f t := by
  have hn := sumD_nn (f := f) (t := t) ha
  unfold eV
  by_cases h1 : lateB p f d = true
  · rw [if_pos h1, if_pos (lateB_mono h h1)]; exact Rat.le_refl
  · rw [if_neg h1]
    split
    · grind
    · exact Rat.le_refl
theorem eV_nn {p : Pf} {d : Nat → Bool} (h1 : amtOk p.due) (h2 : amtOk p.later) (f t : Int) : 0 ≤ eV p d f t := by
  have a := sumD_nn (f := f) (t := t) h1
  have b := sumD_nn (f := f) (t := t) h2
  unfold eV
  split <;> grind
theorem owV_mono {p : Pf} {d e : Nat → Bool} (h : Sub12 d e) (h1 : amtOk p.due) (h2 : amtOk p.later) (x : Int) : owV p x d ≤ owV p x e := by
  have a := eV_mono (p := p) h h2 x (-1)
  have b := S_le (g := fun i => gV p x d (p.gs.getD i default)) (h := fun i => gV p x e (p.gs.getD i default)) (n := p.gs.length) fun i hi => by
    generalize p.gs.getD i default = g
    unfold gV
    by_cases hs : gSel x d g = true
    · have : gSel x e g = true := by
        unfold gSel at hs ⊢
        rw [Bool.and_eq_true] at hs ⊢
        exact ⟨hs.1, h _ hs.2⟩
      rw [if_pos hs, if_pos this]
      exact eV_mono h h2 _ _
    · rw [if_neg hs]
      split
      · exact eV_nn h1 h2 _ _
      · exact Rat.le_refl
  unfold owV
  grind
end Go.Proofs.Ytbheoblmfjjaaaa
end
section
/- Plain laws: the sets of defaults; portfolios that are told in another order. -/
namespace Go.Proofs.Ytbheoblmfjjaaaa
open Go.Eng
set_option maxRecDepth 10000
set_option linter.unusedSimpArgs false
set_option linter.unusedVariables false
theorem cmpR_lt {a b : Q} (ha : qOk a = true) (hb : qOk b = true) : 0 < cmpR a b ↔ rt b < rt a := by
  have h1 := rt_le hb ha
  have h2 : rt b < rt a ↔ ¬ rt a ≤ rt b := by grind
  rw [h2, h1]
  unfold cmpR
  rw [ha, hb, Bool.and_self, if_pos rfl]
  split
  · rename_i h; omega
  · split
    · rename_i h1 h2; omega
    · rename_i h1 h2; omega
def asOk (p : Pf) : Prop := ∀ j : Nat, (j : Int) < p.parties → qOk (p.assets.getD j default) = true
theorem errT_zero {p : Pf} {d : Nat → Bool} : ∀ {n}, errT p d n = 0 → ∀ j, j < n → (owedR p j d).2 = 0
  | 0, _, j, hj => absurd hj (Nat.not_lt_zero _)
  | n + 1, h, j, hj => by
    by_cases h0 : errT p d n = 0
    · rw [errT, if_neg (by simpa using h0)] at h
      by_cases e : j = n
      · subst e; exact h
      · exact errT_zero h0 j (by omega)
    · rw [errT_stop h0 (n + 1) (by omega)] at h
      exact absurd h h0
theorem nextD_iff {p : Pf} {d : Nat → Bool} (ha : asOk p) (h : errA p d = 0) (j : Nat) : nextD p d j = true ↔ (j : Int) < p.parties ∧ rt (p.assets.getD j default) < owV p j d := by
  unfold nextD
  rw [Bool.and_eq_true, decide_eq_true_eq, decide_eq_true_eq]
  constructor
  · rintro ⟨h1, h2⟩
    obtain ⟨g1, g2⟩ := owedR_val (errT_zero (n := p.parties.toNat) h j (by omega))
    rw [cmpR_lt g1 (ha j h1), g2] at h2
    exact ⟨h1, h2⟩
  · rintro ⟨h1, h2⟩
    obtain ⟨g1, g2⟩ := owedR_val (errT_zero (n := p.parties.toNat) h j (by omega))
    refine ⟨h1, ?_⟩
    rw [cmpR_lt g1 (ha j h1), g2]
    exact h2
def cnt12 (d : Nat → Bool) : Nat := (d 0).toNat + (d 1).toNat + (d 2).toNat + (d 3).toNat + (d 4).toNat + (d 5).toNat + (d 6).toNat + (d 7).toNat + (d 8).toNat + (d 9).toNat + (d 10).toNat + (d 11).toNat
theorem cnt12_le (d : Nat → Bool) : cnt12 d ≤ 12 := by
  have h : ∀ b : Bool, b.toNat ≤ 1 := fun b => by cases b <;> decide
  have h0 := h (d 0); have h1 := h (d 1); have h2 := h (d 2); have h3 := h (d 3); have h4 := h (d 4); have h5 := h (d 5)
  have h6 := h (d 6); have h7 := h (d 7); have h8 := h (d 8); have h9 := h (d 9); have h10 := h (d 10); have h11 := h (d 11)
  unfold cnt12
  omega
theorem cnt12_lt {d e : Nat → Bool} (hs : Sub12 d e) (hn : eq12 e d = false) : cnt12 d < cnt12 e := by
  have h : ∀ j, (d j).toNat ≤ (e j).toNat := fun j => by
    have := hs j
    cases hd : d j with
    | false => exact Nat.zero_le _
    | true => rw [this hd]; exact Nat.le_refl _
  have hq : ∀ j, (d j).toNat = (e j).toNat → (e j == d j) = true := fun j hj => by
    cases h1 : d j <;> cases h2 : e j <;> rw [h1, h2] at hj <;> first | rfl | cases hj
  have h0 := h 0; have h1 := h 1; have h2 := h 2; have h3 := h 3; have h4 := h 4; have h5 := h 5
  have h6 := h 6; have h7 := h 7; have h8 := h 8; have h9 := h 9; have h10 := h 10; have h11 := h 11
  apply Classical.byContradiction
  intro hc
  unfold cnt12 at hc
  have : eq12 e d = true := by
    unfold eq12
    rw [hq 0 (by omega), hq 1 (by omega), hq 2 (by omega), hq 3 (by omega), hq 4 (by omega), hq 5 (by omega), hq 6 (by omega), hq 7 (by omega), hq 8 (by omega), hq 9 (by omega), hq 10 (by omega), hq 11 (by omega)]
    rfl
  rw [this] at hn
  cases hn
def InvS (p : Pf) (n : Nat) (d : Nat → Bool) : Prop := 13 ≤ n + cnt12 d ∧ (errA p d = 0 → Sub12 d (nextD p d))
theorem inv_zero (p : Pf) : InvS p 13 (fun _ => false) := ⟨by decide, fun _ j h => by cases h⟩
theorem inv_step {p : Pf} (ha : asOk p) (h1 : amtOk p.due) (h2 : amtOk p.later) (n : Nat) (d : Nat → Bool) (h : InvS p n d) : 0 < n ∧ (errA p d = 0 → eq12 (nextD p d) d = false → InvS p (n - 1) (nextD p d)) := by
  obtain ⟨h3, h4⟩ := h
  have h5 := cnt12_le d
  refine ⟨by omega, fun he hq => ⟨?_, fun he2 j hj => ?_⟩⟩
  · have := cnt12_lt (h4 he) hq
    omega
  · rw [nextD_iff ha he] at hj
    rw [nextD_iff ha he2]
    have := owV_mono (p := p) (h4 he) h1 h2 j
    refine ⟨hj.1, ?_⟩
    grind
/-- Two portfolios that owe the same. -/
structure SameP (p q : Pf) : Prop where
  parties : q.parties = p.parties
  assets : q.assets = p.assets
  owed : ∀ x d, owV q x d = owV p x d
theorem next_same {p q : Pf} (h : SameP p q) (ha : asOk p) {d : Nat → Bool} (h1 : errA p d = 0) (h2 : errA q d = 0) : nextD q d = nextD p d := by
  have hb : asOk q := by
    intro j hj
    rw [h.assets]
    exact ha j (by rw [← h.parties]; exact hj)
  funext j
  rw [Bool.eq_iff_iff, nextD_iff hb h2, nextD_iff ha h1, h.parties, h.assets, h.owed]
theorem spread_same {p q : Pf} (h : SameP p q) (ha : asOk p) : ∀ n d, (spreadG p n d).2 = 0 → (spreadG q n d).2 = 0 → spreadG q n d = spreadG p n d
  | 0, d, _, _ => rfl
  | n + 1, d, h1, h2 => by
    have gp : spreadG p (n + 1) d = if errA p d ≠ 0 then (fun _ => false, errA p d) else if eq12 (nextD p d) d = true then (d, 0) else spreadG p n (nextD p d) := rfl
    have gq : spreadG q (n + 1) d = if errA q d ≠ 0 then (fun _ => false, errA q d) else if eq12 (nextD q d) d = true then (d, 0) else spreadG q n (nextD q d) := rfl
    rw [gp] at h1
    rw [gq] at h2
    have e1 : errA p d = 0 := by
      apply Classical.byContradiction
      intro hc
      rw [if_pos hc] at h1
      exact hc h1
    have e2 : errA q d = 0 := by
      apply Classical.byContradiction
      intro hc
      rw [if_pos hc] at h2
      exact hc h2
    rw [if_neg (by simpa using e1)] at h1
    rw [if_neg (by simpa using e2), next_same h ha e1 e2] at h2
    rw [gq, gp, if_neg (show ¬ errA q d ≠ 0 by simpa using e2), if_neg (show ¬ errA p d ≠ 0 by simpa using e1), next_same h ha e1 e2]
    by_cases hq : eq12 (nextD p d) d = true
    · rw [if_pos hq, if_pos hq]
    · rw [if_neg hq] at h1 h2
      rw [if_neg hq, if_neg hq]
      exact spread_same h ha n _ h1 h2
/-- A debt in two halves. -/
def halfL (l : List Db) (k : Nat) (x : Db) : List Db := l.set k x ++ [x]
theorem sumD_turn {f t : Int} {l : List Db} {u : Nat} : sumD f t (turnL l u) = sumD f t l := by
  unfold sumD
  rw [turnL_len]
  by_cases h0 : l.length = 0
  · rw [h0]; rfl
  · have h1 : S (fun j => wt f t ((turnL l u).getD j default)) l.length = S (fun j => (fun i => (fun m => wt f t (l.getD m default)) ((i + u) % l.length)) (l.length - 1 - j)) l.length :=
      S_congr fun j hj => by rw [turnL_getD hj]
    rw [h1, S_rev l.length (fun i => (fun m => wt f t (l.getD m default)) ((i + u) % l.length))]
    exact S_rot (fun m => wt f t (l.getD m default)) l.length u (by omega)
theorem sumD_half {f t : Int} {l : List Db} {k : Nat} {x : Db} (hk : k < l.length) (h1 : x.from_ = (l.getD k default).from_) (h2 : x.to = (l.getD k default).to) (h3 : rt x.amt + rt x.amt = rt (l.getD k default).amt) : sumD f t (halfL l k x) = sumD f t l := by
  unfold sumD halfL
  rw [List.length_append, List.length_set, List.length_singleton, S]
  have e1 : S (fun j => wt f t ((l.set k x ++ [x]).getD j default)) l.length = S (fun j => if j = k then wt f t x else (fun j => wt f t (l.getD j default)) j) l.length := S_congr fun j hj => by
    rw [List.getD_eq_getElem?_getD, List.getElem?_append_left (by rw [List.length_set]; exact hj), List.getElem?_set]
    by_cases hjk : k = j
    · subst hjk
      rw [if_pos rfl, if_pos hk, if_pos rfl]
      rfl
    · rw [if_neg hjk, if_neg (fun h => hjk h.symm), ← List.getD_eq_getElem?_getD]
  have e2 : (l.set k x ++ [x]).getD l.length default = x := by
    rw [List.getD_eq_getElem?_getD, List.getElem?_append_right (by rw [List.length_set]; exact Nat.le_refl _), List.length_set, Nat.sub_self]
    rfl
  rw [e1, e2, S_set hk]
  have : wt f t x + wt f t x = wt f t (l.getD k default) := by
    unfold wt selB
    rw [h1, h2]
    split
    · exact h3
    · grind
  show S (fun j => wt f t (l.getD j default)) l.length - wt f t (l.getD k default) + wt f t x + wt f t x = _
  grind
/-- The portfolio in another order. -/
theorem same_of {p q : Pf} (h1 : q.parties = p.parties) (h2 : q.assets = p.assets) (h3 : ∀ f t, sumD f t q.due = sumD f t p.due) (h4 : ∀ f t, sumD f t q.later = sumD f t p.later) (h5 : q.gs = p.gs.reverse) (h6 : q.ts = p.ts.reverse) : SameP p q := by
  refine ⟨h1, h2, fun x d => ?_⟩
  have hl : ∀ x, lateB q x d = lateB p x d := fun x => by
    unfold lateB
    rw [h6, List.any_reverse]
  have he : ∀ f t, eV q d f t = eV p d f t := fun f t => by
    unfold eV
    rw [h3, h4, hl]
  have hg : ∀ g, gV q x d g = gV p x d g := fun g => by
    unfold gV
    rw [he]
  unfold owV
  rw [he, h5, List.length_reverse]
  congr 1
  rw [← S_rev p.gs.length (fun i => gV p x d (p.gs.getD i default))]
  refine S_congr fun i hi => ?_
  rw [hg]
  congr 1
  rw [List.getD_eq_getElem?_getD, List.getElem?_reverse hi, ← List.getD_eq_getElem?_getD]
end Go.Proofs.Ytbheoblmfjjaaaa
end
section
/- Contracts: package netting: Pairs. -/
namespace Go.Proofs.Ytbheoblmfjjaaaa
open Go.Eng
set_option maxRecDepth 10000
set_option linter.unusedSimpArgs false
set_option linter.unusedVariables false
def prR (l : Nat → Db) (n : Nat) (a b : Nat) : Q × Int := totT (sgnA a b) l n
/-- The error of the first pairs, along a row; along rows. -/
def rowE (l : Nat → Db) (n : Nat) (a : Nat) (s : Int) : Nat → Int
  | 0 => s
  | b + 1 => if rowE l n a s b ≠ 0 then rowE l n a s b else if b ≤ a then rowE l n a s b else (prR l n a b).2
def allE (l : Nat → Db) (n : Nat) (P : Nat) : Nat → Int
  | 0 => 0
  | a + 1 => rowE l n a (allE l n P a) P
theorem rowE_stop {l : Nat → Db} {n a : Nat} {s : Int} {b : Nat} (h : rowE l n a s b ≠ 0) : ∀ m, b ≤ m → rowE l n a s m = rowE l n a s b := by
  intro m hm
  induction m with
  | zero => have : b = 0 := by omega
            rw [this]
  | succ m ih =>
    by_cases h1 : b = m + 1
    · rw [h1]
    · have h2 := ih (by omega)
      simp only [rowE]
      rw [if_pos (by rw [h2]; exact h), h2]
theorem rowE_low {l : Nat → Db} {n a : Nat} {s : Int} : ∀ {b : Nat}, b ≤ a + 1 → rowE l n a s b = s
  | 0, _ => rfl
  | b + 1, h => by
    simp only [rowE]
    have h' : b ≤ a := by omega
    rw [rowE_low (b := b) (by omega), if_pos h']
    split <;> rfl
theorem allE_stop {l : Nat → Db} {n P a : Nat} (h : allE l n P a ≠ 0) : ∀ m, a ≤ m → allE l n P m = allE l n P a := by
  intro m hm
  induction m with
  | zero => have : a = 0 := by omega
            rw [this]
  | succ m ih =>
    by_cases h1 : a = m + 1
    · rw [h1]
    · have h2 := ih (by omega)
      show rowE l n m (allE l n P m) P = _
      rw [rowE_stop (b := 0) (by show allE l n P m ≠ 0; rw [h2]; exact h) P (Nat.zero_le _)]
      exact h2
theorem rowE_zero {l : Nat → Db} {n a : Nat} {s : Int} : ∀ {b : Nat}, rowE l n a s b = 0 → s = 0 ∧ ∀ b', a < b' → b' < b → (prR l n a b').2 = 0
  | 0, h => ⟨h, fun _ _ h => absurd h (Nat.not_lt_zero _)⟩
  | b + 1, h => by
    by_cases h0 : rowE l n a s b = 0
    · obtain ⟨h1, h2⟩ := rowE_zero h0
      refine ⟨h1, fun b' hb hb' => ?_⟩
      by_cases hbb : b' = b
      · subst hbb
        simp only [rowE, h0, ne_eq, not_true_eq_false, if_false] at h
        rw [if_neg (by omega)] at h
        exact h
      · exact h2 b' hb (by omega)
    · rw [rowE_stop h0 (b + 1) (by omega)] at h
      exact absurd h h0
theorem allE_zero {l : Nat → Db} {n P : Nat} : ∀ {a : Nat}, allE l n P a = 0 → ∀ a' b', a' < a → a' < b' → b' < P → (prR l n a' b').2 = 0
  | 0, _, _, _, h, _, _ => absurd h (Nat.not_lt_zero _)
  | a + 1, h, a', b', ha, hb, hP => by
    obtain ⟨h1, h2⟩ := rowE_zero (show rowE l n a (allE l n P a) P = 0 from h)
    by_cases haa : a' = a
    · subst haa; exact h2 b' hb hP
    · exact allE_zero h1 a' b' (by omega) hb hP
/-- The debt of a pair. -/
def prD (a b : Nat) (q : Q) : List Db := if 0 < q.1 then [⟨a, b, q⟩] else if q.1 < 0 then [⟨b, a, sgQ true q⟩] else []
def pairL (l : Nat → Db) (n : Nat) (a : Nat) (s : List Db) : Nat → List Db
  | 0 => s
  | b + 1 => if b ≤ a then pairL l n a s b else pairL l n a s b ++ prD a b (prR l n a b).1
def allL (l : Nat → Db) (n : Nat) (P : Nat) : Nat → List Db
  | 0 => []
  | a + 1 => pairL l n a (allL l n P a) P
theorem pairL_low {l : Nat → Db} {n a : Nat} {s : List Db} : ∀ {b : Nat}, b ≤ a + 1 → pairL l n a s b = s
  | 0, _ => rfl
  | b + 1, h => by
    simp only [pairL]
    rw [pairL_low (b := b) (by omega), if_pos (by omega)]
theorem prD_len (a b : Nat) (q : Q) : (prD a b q).length ≤ 1 := by
  unfold prD
  split
  · simp
  · split <;> simp
theorem pairL_len (l : Nat → Db) (n : Nat) (a : Nat) (s : List Db) : ∀ b, (pairL l n a s b).length ≤ s.length + b
  | 0 => Nat.le_refl _
  | b + 1 => by
    have ih := pairL_len l n a s b
    have := prD_len a b (prR l n a b).1
    simp only [pairL]
    split
    · omega
    · simp only [List.length_append]; omega
theorem allL_len (l : Nat → Db) (n P : Nat) : ∀ a, (allL l n P a).length ≤ a * P
  | 0 => by simp [allL]
  | a + 1 => by
    have ih := allL_len l n P a
    have := pairL_len l n a (allL l n P a) P
    have e : (a + 1) * P = a * P + P := by rw [Nat.add_mul, Nat.one_mul]
    simp only [allL]
    omega
def pairsR (P : Nat) (l : Nat → Db) (n : Nat) : List Db × Int :=
  if netB P n l = false then ([], 1) else if allE l n P P ≠ 0 then ([], allE l n P P) else (allL l n P P, 0)
theorem rowOf_rep {a : AV} {n sz i : Nat} (hi : i < n) : rowOf (List.replicate (n * sz) a) sz i = List.replicate sz a := by
  have : (i + 1) * sz ≤ n * sz := Nat.mul_le_mul_right sz hi
  rw [Nat.add_mul, Nat.one_mul] at this
  simp only [rowOf, List.drop_replicate, List.take_replicate]
  congr 1
  omega
theorem pairs_ok (parties : Nat) (n : Nat) (l : Nat → Db) (hl : ∀ i, i < n → dbW (l i)) : Does Try.prog 44 [.c (.int .i64 parties), dbsV n l] (.tup [dbsV (pairsR parties l n).1.length (fun i => (pairsR parties l n).1.getD i default), .c (.int .i64 (pairsR parties l n).2)]) := by
  refine Does.mk (fun _ => false) TT_ok Try.func44 rfl (by kernel_rfl) Try.ntmps44 rfl rfl fun E hT hE hN hR => ?_
  have hm : E.P.follows .mixedOrders = true := by rw [hE]; kernel_rfl
  (repeat (first | refine XK.norm rfl rfl ?_ | refine XK.rgnA hT rfl rfl rfl ?_ | refine XK.rgnB hT hm rfl rfl rfl ?_)); refine XK.region ?_; refine XL.goA hT rfl rfl rfl rfl ?_
  refine XL.callLA hE rfl rfl rfl rfl trivial rfl (netValid_ok parties n l hl) rfl ?_
  refine XL.goA hT rfl rfl rfl rfl ?_; refine XL.fin ?_; (repeat (first | refine XK.norm rfl rfl ?_ | refine XK.rgnA hT rfl rfl rfl ?_ | refine XK.rgnB hT hm rfl rfl rfl ?_))
  (repeat (first | refine XK.norm rfl rfl ?_ | refine XK.rgnA hT rfl rfl rfl ?_ | refine XK.rgnB hT hm rfl rfl rfl ?_)); refine XK.cond rfl (fun h1 => ?_) (fun h1 => ?_) <;> (try simp at h1)
  · (repeat (first | refine XK.norm rfl rfl ?_ | refine XK.rgnA hT rfl rfl rfl ?_ | refine XK.rgnB hT hm rfl rfl rfl ?_))
    (first | refine XK.outL rfl rfl rfl ?_ | refine XK.outLN rfl rfl rfl ?_)
    rw [pairsR, if_pos h1]
    exact ⟨⟨rfl, rfl⟩, rfl⟩
  · have hR : pairsR parties l n = if allE l n parties parties ≠ 0 then ([], allE l n parties parties) else (allL l n parties parties, 0) := by rw [pairsR, if_neg (by rw [h1]; simp)]
    obtain ⟨⟨hp, hn⟩, hdb⟩ := netB_true.1 h1
    have ht := fun a b : Nat => total2_ok n l (sgnA a b) 75 [.c (.int .i64 a)] [.c (.int .i64 b)] (fun d => by unfold sgnA; split; (· omega); (· split <;> omega)) (fun i hi => (dbB_ok (hdb i hi)).2.2.2.1) (fun d => signA_ok a b d)
    have ht : ∀ a b : Nat, Does Try.prog 74 [dbsV n l, .fn (.func 75) [] [.rptr [.c (.int .i64 a)], .rptr [.c (.int .i64 b)]]] (qr (prR l n a b)) := ht
    rw [hR]
    clear hR
    (repeat (first | refine XK.norm rfl rfl ?_ | refine XK.rgnA hT rfl rfl rfl ?_ | refine XK.rgnB hT hm rfl rfl rfl ?_))
    have hz : ∀ j, j < 144 → rowOf (List.map AV.c ty121.zero) 2 j = qc (0, 0) := fun j hj => by
      rw [show List.map AV.c ty121.zero = List.replicate (144 * 2) (AV.c (.int .i64 0)) from rfl, rowOf_rep hj]
      rfl
    refine XK.loop (ι := Nat × (Nat → Q)) (fun x => ST.of [(0, .c (.int .i64 parties)), (1, dbsV n l), (6, .vptr 180 0 2 0 0), (19, .c (.int .i64 parties)), (20, .c (.int .i64 x.1))] [(180, .vec 121 2 0 144 (fun j => qc (x.2 j)))] 1000 87 (fun _ => false))
      (fun x => x.1 ≤ parties ∧ allE l n parties x.1 = 0 ∧ ∀ a b, a < x.1 → a < b → b < parties → x.2 (12 * a + b) = (prR l n a b).1) (fun x => parties - x.1) (0, fun _ => (0, 0)) ⟨Nat.zero_le _, rfl, fun a b h => absurd h (Nat.not_lt_zero _)⟩ (Weak.of hN rfl rfl rfl (by (repeat' (first | exact rfl | exact AvIs.refl _ | exact trivial | exact fun _ _ => rfl | exact fun _ _ => ⟨rfl, AvIs.refl _⟩ | refine ⟨?_, ?_⟩))) ⟨⟨rfl, rfl, rfl⟩, rfl, fun j hj => (hz j hj).symm⟩) fun x hx => ?_
    obtain ⟨a, g⟩ := x
    obtain ⟨x1, x2, x3⟩ := hx
    simp only at x1 x2 x3
    (repeat (first | refine XK.norm rfl rfl ?_ | refine XK.rgnA hT rfl rfl rfl ?_ | refine XK.rgnB hT hm rfl rfl rfl ?_)); refine XK.cond rfl (fun hlt => ?_) (fun hlt => ?_) <;> (try simp at hlt)
    · have hA : allE l n parties (a + 1) = rowE l n a 0 parties := by show rowE l n a (allE l n parties a) parties = _; rw [x2]
      have hlast := fun h => allE_stop (l := l) (n := n) (P := parties) (a := a + 1) h parties hlt
      (repeat (first | refine XK.norm rfl rfl ?_ | refine XK.rgnA hT rfl rfl rfl ?_ | refine XK.rgnB hT hm rfl rfl rfl ?_))
      refine XK.loop (ι := Nat × (Nat → Q)) (fun y => ST.of [(0, .c (.int .i64 parties)), (1, dbsV n l), (6, .vptr 180 0 2 0 0), (7, .ptr 1094 0), (8, .ptr 1182 0), (19, .c (.int .i64 parties)), (20, .c (.int .i64 a))] [(180, .vec 121 2 0 144 (fun j => qc (y.2 j))), (1094, .cells 3 [.c (.int .i64 a)]), (1182, .cells 3 [.c (.int .i64 y.1)])] 2000 87 (fun _ => false))
        (fun y => a < y.1 ∧ y.1 ≤ parties ∧ rowE l n a 0 y.1 = 0 ∧ (∀ a' b, a' < a → a' < b → b < parties → y.2 (12 * a' + b) = (prR l n a' b).1) ∧ ∀ b, a < b → b < y.1 → y.2 (12 * a + b) = (prR l n a b).1) (fun y => parties - y.1) (a + 1, g) ⟨by simp only; omega, hlt, rowE_low (Nat.le_refl _), x3, fun b h1 h2 => by simp only at h2; omega⟩ (Weak.of hN rfl rfl rfl (by (repeat' (first | exact rfl | exact AvIs.refl _ | exact trivial | exact fun _ _ => rfl | exact fun _ _ => ⟨rfl, AvIs.refl _⟩ | refine ⟨?_, ?_⟩))) (by (repeat' (first | exact rfl | exact AvIs.refl _ | exact trivial | exact fun _ _ => rfl | exact fun _ _ => ⟨rfl, AvIs.refl _⟩ | refine ⟨?_, ?_⟩)))) fun y hy => ?_
      obtain ⟨b, g'⟩ := y
      obtain ⟨y1, y2, y3, y4, y5⟩ := hy
      simp only at y1 y2 y3 y4 y5
      (repeat (first | refine XK.norm rfl rfl ?_ | refine XK.rgnA hT rfl rfl rfl ?_ | refine XK.rgnB hT hm rfl rfl rfl ?_)); refine XK.cond rfl (fun hlb => ?_) (fun hlb => ?_) <;> (try simp at hlb)
      · have hB : rowE l n a 0 (b + 1) = (prR l n a b).2 := by
          simp only [rowE, y3, ne_eq, not_true_eq_false, if_false]
          rw [if_neg (by omega)]
        have hlb2 := fun h => rowE_stop (l := l) (n := n) (a := a) (s := 0) (b := b + 1) h parties hlb
        have ht := ht a b
        (repeat (first | refine XK.norm rfl rfl ?_ | refine XK.rgnA hT rfl rfl rfl ?_ | refine XK.rgnB hT hm rfl rfl rfl ?_)); refine XK.region ?_; refine XL.goA hT rfl rfl rfl rfl ?_
        refine XL.callLA hE rfl rfl rfl rfl trivial rfl (ht) rfl ?_
        refine XL.goA hT rfl rfl rfl rfl ?_; refine XL.fin ?_; (repeat (first | refine XK.norm rfl rfl ?_ | refine XK.rgnA hT rfl rfl rfl ?_ | refine XK.rgnB hT hm rfl rfl rfl ?_))
        (repeat (first | refine XK.norm rfl rfl ?_ | refine XK.rgnA hT rfl rfl rfl ?_ | refine XK.rgnB hT hm rfl rfl rfl ?_)); refine XK.cond rfl (fun h2 => ?_) (fun h2 => ?_) <;> (try simp at h2)
        · (repeat (first | refine XK.norm rfl rfl ?_ | refine XK.rgnA hT rfl rfl rfl ?_ | refine XK.rgnB hT hm rfl rfl rfl ?_))
          (first | refine XK.outL rfl rfl rfl ?_ | refine XK.outLN rfl rfl rfl ?_)
          rw [if_pos (by rw [hlast (by rw [hA, hlb2 (by rw [hB]; exact h2), hB]; exact h2), hA, hlb2 (by rw [hB]; exact h2), hB]; exact h2)]
          rw [hlast (by rw [hA, hlb2 (by rw [hB]; exact h2), hB]; exact h2), hA, hlb2 (by rw [hB]; exact h2), hB]
          exact ⟨⟨rfl, rfl⟩, rfl⟩
        · iterate 4 (first | refine XK.norm rfl rfl ?_ | refine XK.rgnA hT rfl rfl rfl ?_ | refine XK.rgnB hT hm rfl rfl rfl ?_)
          refine XK.weak (Weak.of (L := [(0, .c (.int .i64 parties)), (1, dbsV n l), (6, .vptr 180 0 2 0 0), (7, .ptr 1094 0), (19, .c (.int .i64 parties)), (20, .c (.int .i64 a)), (44, .c (.int .i64 b))]) (O := [(180, .vec 121 2 0 144 (fun j => qc (if j = 12 * a + b then (prR l n a b).1 else g' j))), (1094, .cells 3 [.c (.int .i64 a)])]) (nx := 1174) (nt := 87) (md := fun _ => false) hN rfl rfl rfl (by (repeat' (first | exact rfl | exact AvIs.refl _ | exact trivial | exact fun _ _ => rfl | exact fun _ _ => ⟨rfl, AvIs.refl _⟩ | refine ⟨?_, ?_⟩))) ⟨⟨⟨rfl, rfl, rfl⟩, rfl, fun j hj => ?_⟩, by (repeat' (first | exact rfl | exact AvIs.refl _ | exact trivial | exact fun _ _ => rfl | exact fun _ _ => ⟨rfl, AvIs.refl _⟩ | refine ⟨?_, ?_⟩))⟩) ?_
          · rw [setRowF_eq]
            have e0 : 0 + (a : Int).toNat * 12 + (b : Int).toNat = 12 * a + b := by omega
            rw [e0]
            by_cases hjd : j = 12 * a + b
            · rw [if_pos hjd]; simp only [hjd, if_true]; rfl
            · rw [if_neg hjd]; simp only [if_neg hjd]
          · (repeat (first | refine XK.norm rfl rfl ?_ | refine XK.rgnA hT rfl rfl rfl ?_ | refine XK.rgnB hT hm rfl rfl rfl ?_))
            refine XK.inv ⟨(b + 1, fun x => if x = 12 * a + b then (prR l n a b).1 else g' x), ⟨by simp only; omega, by simp only; omega, by rw [hB]; exact h2, fun a' b' h3 h4 h5 => ?_, fun b' h3 h4 => ?_⟩, (Weak.of hN rfl rfl rfl (by (repeat' (first | exact rfl | exact AvIs.refl _ | exact trivial | exact fun _ _ => rfl | exact fun _ _ => ⟨rfl, AvIs.refl _⟩ | refine ⟨?_, ?_⟩))) (by (repeat' (first | exact rfl | exact AvIs.refl _ | exact trivial | exact fun _ _ => rfl | exact fun _ _ => ⟨rfl, AvIs.refl _⟩ | refine ⟨?_, ?_⟩)))), by simp only; omega⟩
            · show (if _ then _ else _) = _
              rw [if_neg (by omega)]; exact y4 a' b' h3 h4 h5
            · show (if _ then _ else _) = _
              by_cases hbb : b' = b
              · subst hbb; rw [if_pos rfl]
              · rw [if_neg (by omega)]; exact y5 b' h3 (by simp only at h4; omega)
      · (repeat (first | refine XK.norm rfl rfl ?_ | refine XK.rgnA hT rfl rfl rfl ?_ | refine XK.rgnB hT hm rfl rfl rfl ?_))
        refine XK.inv ⟨(a + 1, g'), ⟨hlt, by simp only; rw [hA]; have : b = parties := by omega
                                             rw [← this]; exact y3, fun a' b' h1 h2 h3 => ?_⟩, (Weak.of hN rfl rfl rfl (by (repeat' (first | exact rfl | exact AvIs.refl _ | exact trivial | exact fun _ _ => rfl | exact fun _ _ => ⟨rfl, AvIs.refl _⟩ | refine ⟨?_, ?_⟩))) (by (repeat' (first | exact rfl | exact AvIs.refl _ | exact trivial | exact fun _ _ => rfl | exact fun _ _ => ⟨rfl, AvIs.refl _⟩ | refine ⟨?_, ?_⟩)))), by simp only; omega⟩
        by_cases ha : a' = a
        · subst ha; exact y5 b' h2 (by omega)
        · exact y4 a' b' (by simp only at h1; omega) h2 h3
    · have haP : a = parties := by omega
      subst haP
      rw [if_neg (by rw [x2]; simp)]
      (repeat (first | refine XK.norm rfl rfl ?_ | refine XK.rgnA hT rfl rfl rfl ?_ | refine XK.rgnB hT hm rfl rfl rfl ?_))
      refine XK.loop (ι := Nat) (fun a' => ST.of [(0, .c (.int .i64 a)), (6, .vptr 180 0 2 0 0), (11, .vec 700 0), (46, .c (.int .i64 a)), (47, .c (.int .i64 a'))] [(180, .vec 121 2 0 144 (fun j => qc (g j))), (700, dbRow (allL l n a a'))] 3000 87 (fun _ => false))
        (fun a' => a' ≤ a) (fun a' => a - a') 0 (Nat.zero_le _) (Weak.trans (Weak.ghost (j := 11) (k := 700) (e := 42) (sz := 4) (f := fun _ => []) rfl rfl) (Weak.of hN rfl rfl rfl (by (repeat' (first | exact rfl | exact AvIs.refl _ | exact trivial | exact fun _ _ => rfl | exact fun _ _ => ⟨rfl, AvIs.refl _⟩ | refine ⟨?_, ?_⟩))) ⟨by (repeat' (first | exact rfl | exact AvIs.refl _ | exact trivial | exact fun _ _ => rfl | exact fun _ _ => ⟨rfl, AvIs.refl _⟩ | refine ⟨?_, ?_⟩)), ⟨rfl, rfl, rfl⟩, rfl, fun j hj => absurd hj (Nat.not_lt_zero _)⟩)) fun a' ha => ?_
      (repeat (first | refine XK.norm rfl rfl ?_ | refine XK.rgnA hT rfl rfl rfl ?_ | refine XK.rgnB hT hm rfl rfl rfl ?_)); refine XK.cond rfl (fun hlt2 => ?_) (fun hlt2 => ?_) <;> (try simp at hlt2)
      · have hL0 := allL_len l n a a'
        have hLL : a' * a ≤ 12 * 12 := Nat.mul_le_mul (by omega) (by omega)
        have hL1 : allL l n a (a' + 1) = pairL l n a' (allL l n a a') a := rfl
        generalize allL l n a a' = S at *
        (repeat (first | refine XK.norm rfl rfl ?_ | refine XK.rgnA hT rfl rfl rfl ?_ | refine XK.rgnB hT hm rfl rfl rfl ?_))
        refine XK.loop (ι := Nat) (fun b => ST.of [(0, .c (.int .i64 a)), (6, .vptr 180 0 2 0 0), (11, .vec 700 0), (12, .c (.int .i64 a')), (13, .c (.int .i64 b)), (46, .c (.int .i64 a)), (47, .c (.int .i64 a'))] [(180, .vec 121 2 0 144 (fun j => qc (g j))), (700, dbRow (pairL l n a' S b))] 4000 87 (fun _ => false))
          (fun b => a' < b ∧ b ≤ a) (fun b => a - b) (a' + 1) ⟨by omega, by omega⟩ ?_ fun b hb => ?_
        · rw [pairL_low (Nat.le_refl _)]
          exact (Weak.of hN rfl rfl rfl (by (repeat' (first | exact rfl | exact AvIs.refl _ | exact trivial | exact fun _ _ => rfl | exact fun _ _ => ⟨rfl, AvIs.refl _⟩ | refine ⟨?_, ?_⟩))) (by (repeat' (first | exact rfl | exact AvIs.refl _ | exact trivial | exact fun _ _ => rfl | exact fun _ _ => ⟨rfl, AvIs.refl _⟩ | refine ⟨?_, ?_⟩))))
        obtain ⟨hb1, hb2⟩ := hb
        have hrl := pairL_len l n a' S b
        (repeat (first | refine XK.norm rfl rfl ?_ | refine XK.rgnA hT rfl rfl rfl ?_ | refine XK.rgnB hT hm rfl rfl rfl ?_)); refine XK.cond rfl (fun hlb => ?_) (fun hlb => ?_) <;> (try simp at hlb)
        · have hg := x3 a' b hlt2 hb1 hlb
          have hpe := allE_zero x2 a' b hlt2 hb1 hlb
          have hq : qOk (prR l n a' b).1 = true := totT_qOk hpe
          have hop := opposite_ok (prR l n a' b).1 hq
          have e0 : 0 + (a' : Int).toNat * 12 + (b : Int).toNat = 12 * a' + b := by omega
          have hR1 : pairL l n a' S (b + 1) = pairL l n a' S b ++ prD a' b (prR l n a' b).1 := by
            simp only [pairL]; rw [if_neg (by omega)]
          generalize (prR l n a' b).1 = v at *
          generalize pairL l n a' S b = S1 at *
          (repeat (first | refine XK.norm rfl rfl ?_ | refine XK.rgnA hT rfl rfl rfl ?_ | refine XK.rgnB hT hm rfl rfl rfl ?_))
          rw [e0, hg]
          (repeat (first | refine XK.norm rfl rfl ?_ | refine XK.rgnA hT rfl rfl rfl ?_ | refine XK.rgnB hT hm rfl rfl rfl ?_)); refine XK.cond rfl (fun h4 => ?_) (fun h4 => ?_) <;> (try simp at h4)
          · have hpd : prD a' b v = [⟨a', b, v⟩] := if_pos h4
            rw [hpd] at hR1
            (repeat (first | refine XK.norm rfl rfl ?_ | refine XK.rgnA hT rfl rfl rfl ?_ | refine XK.rgnB hT hm rfl rfl rfl ?_))
            refine XK.inv ⟨b + 1, ⟨by omega, by omega⟩, ?_, by omega⟩
            rw [hR1]
            refine Weak.trans (Weak.stamp (k := 700) (t := 0) hN rfl rfl) (Weak.of hN rfl rfl rfl (by (repeat' (first | exact rfl | exact AvIs.refl _ | exact trivial | exact fun _ _ => rfl | exact fun _ _ => ⟨rfl, AvIs.refl _⟩ | refine ⟨?_, ?_⟩))) ⟨by (repeat' (first | exact rfl | exact AvIs.refl _ | exact trivial | exact fun _ _ => rfl | exact fun _ _ => ⟨rfl, AvIs.refl _⟩ | refine ⟨?_, ?_⟩)), ⟨rfl, rfl, rfl⟩, by simp, fun j hj => (catF_one (g := fun j => dbC ((S1 ++ [Db.mk a' b v]).getD j default)) ?_ ?_ j (by simpa using hj)).symm⟩)
            · simp [dbC]; rfl
            · intro j hj
              simp [List.getElem?_append_left hj]
          · have hpd : prD a' b v = if v.1 < 0 then [⟨b, a', sgQ true v⟩] else [] := if_neg (by omega)
            rw [hpd] at hR1
            (repeat (first | refine XK.norm rfl rfl ?_ | refine XK.rgnA hT rfl rfl rfl ?_ | refine XK.rgnB hT hm rfl rfl rfl ?_)); refine XK.cond rfl (fun h5 => ?_) (fun h5 => ?_) <;> (try simp at h5)
            · rw [if_pos h5] at hR1
              (repeat (first | refine XK.norm rfl rfl ?_ | refine XK.rgnA hT rfl rfl rfl ?_ | refine XK.rgnB hT hm rfl rfl rfl ?_)); refine XK.region ?_; refine XL.goA hT rfl rfl rfl rfl ?_
              refine XL.callLA hE rfl rfl rfl rfl trivial rfl (hop) rfl ?_
              refine XL.goA hT rfl rfl rfl rfl ?_; refine XL.fin ?_; (repeat (first | refine XK.norm rfl rfl ?_ | refine XK.rgnA hT rfl rfl rfl ?_ | refine XK.rgnB hT hm rfl rfl rfl ?_))
              refine XK.inv ⟨b + 1, ⟨by omega, by omega⟩, ?_, by omega⟩
              rw [hR1]
              refine Weak.trans (Weak.stamp (k := 700) (t := 0) hN rfl rfl) (Weak.of hN rfl rfl rfl (by (repeat' (first | exact rfl | exact AvIs.refl _ | exact trivial | exact fun _ _ => rfl | exact fun _ _ => ⟨rfl, AvIs.refl _⟩ | refine ⟨?_, ?_⟩))) ⟨by (repeat' (first | exact rfl | exact AvIs.refl _ | exact trivial | exact fun _ _ => rfl | exact fun _ _ => ⟨rfl, AvIs.refl _⟩ | refine ⟨?_, ?_⟩)), ⟨rfl, rfl, rfl⟩, by simp, fun j hj => (catF_one (g := fun j => dbC ((S1 ++ [Db.mk b a' (sgQ true v)]).getD j default)) ?_ ?_ j (by simpa using hj)).symm⟩)
              · simp [dbC]; rfl
              · intro j hj
                simp [List.getElem?_append_left hj]
            · rw [if_neg (by omega), List.append_nil] at hR1
              (repeat (first | refine XK.norm rfl rfl ?_ | refine XK.rgnA hT rfl rfl rfl ?_ | refine XK.rgnB hT hm rfl rfl rfl ?_))
              refine XK.inv ⟨b + 1, ⟨by omega, by omega⟩, ?_, by omega⟩
              rw [hR1]
              exact (Weak.of hN rfl rfl rfl (by (repeat' (first | exact rfl | exact AvIs.refl _ | exact trivial | exact fun _ _ => rfl | exact fun _ _ => ⟨rfl, AvIs.refl _⟩ | refine ⟨?_, ?_⟩))) (by (repeat' (first | exact rfl | exact AvIs.refl _ | exact trivial | exact fun _ _ => rfl | exact fun _ _ => ⟨rfl, AvIs.refl _⟩ | refine ⟨?_, ?_⟩))))
        · have hba : b = a := by omega
          subst hba
          (repeat (first | refine XK.norm rfl rfl ?_ | refine XK.rgnA hT rfl rfl rfl ?_ | refine XK.rgnB hT hm rfl rfl rfl ?_))
          refine XK.inv ⟨a' + 1, by omega, ?_, by omega⟩
          rw [hL1]
          exact (Weak.of hN rfl rfl rfl (by (repeat' (first | exact rfl | exact AvIs.refl _ | exact trivial | exact fun _ _ => rfl | exact fun _ _ => ⟨rfl, AvIs.refl _⟩ | refine ⟨?_, ?_⟩))) (by (repeat' (first | exact rfl | exact AvIs.refl _ | exact trivial | exact fun _ _ => rfl | exact fun _ _ => ⟨rfl, AvIs.refl _⟩ | refine ⟨?_, ?_⟩))))
      · have haa : a' = a := by omega
        subst haa
        refine XK.weak (Weak.trans (Weak.frozen (k := 700) hN rfl rfl) (Weak.of (L := [(11, dbsV (allL l n a' a').length (fun i => (allL l n a' a').getD i default))]) (O := []) (nx := 5000) (nt := 87) (md := fun _ => false) hN rfl rfl rfl (by (repeat' (first | exact rfl | exact AvIs.refl _ | exact trivial | exact fun _ _ => rfl | exact fun _ _ => ⟨rfl, AvIs.refl _⟩ | refine ⟨?_, ?_⟩))) trivial)) ?_
        (repeat (first | refine XK.norm rfl rfl ?_ | refine XK.rgnA hT rfl rfl rfl ?_ | refine XK.rgnB hT hm rfl rfl rfl ?_))
        (first | refine XK.outL rfl rfl rfl ?_ | refine XK.outLN rfl rfl rfl ?_)
        exact ⟨⟨rfl, rfl, fun i _ => rfl⟩, rfl⟩
end Go.Proofs.Ytbheoblmfjjaaaa
end
section
/- A nil slice in a struct's cell; the law's head w21Saved. -/
namespace Go.Proofs.Ytbheoblmfjjaaaa
open Go.Eng
set_option maxRecDepth 10000
set_option linter.unusedSimpArgs false
set_option linter.unusedVariables false
theorem Weak.ghostS {E : Env} {st : ST} {c k t e sz : Nat} {l1 l2 : List AV} {f : Nat → List AV} (hc : st.ob c = some (.cells t (l1 ++ .c (.slice none 0 0) :: l2))) (hk : st.ob k = none) (hck : Nat.beq c k = false) :
    Weak E st { st with ob := upd (upd st.ob k (some (.vec e sz 0 0 f))) c (some (.cells t (l1 ++ .vec k 0 :: l2))) } := by
  have hck : c ≠ k := fun h => by subst h; simp at hck
  intro a w ⟨ρ, h⟩
  have hn := h.no k hk
  have hu : ∀ i x b, upd ρ k (some (.hdr 0 (.slice none 0 0))) i = some x → x.block = some b → ρ i = some x := by
    intro i x b hi hb
    by_cases hik : i = k
    · subst hik; rw [upd_same] at hi; injection hi with hi; subst hi; cases hb
    · rwa [upd_other _ _ hik] at hi
  have hl : Le ρ (upd ρ k (some (.hdr 0 (.slice none 0 0)))) := by
    intro i x hi
    by_cases hik : i = k
    · subst hik; rw [hn] at hi; cases hi
    · rw [upd_other _ _ hik]; exact .inl hi
  have hG : ∀ b, E.good w ρ b → E.good w (upd ρ k (some (.hdr 0 (.slice none 0 0)))) b ∧ w.heap[b]? = w.heap[b]? := fun b ⟨h0, hlt, hno⟩ => ⟨⟨h0, hlt, fun i y hi hy => hno i y (hu i y b hi hy) hy⟩, rfl⟩
  refine ⟨upd ρ k (some (.hdr 0 (.slice none 0 0))), h.keep, h.tsz, h.dfr.tr hG, fun i => (h.fr i).tr hG _ hl, fun i o hi => ?_, fun i hi => ?_, fun i i' y y' b hi hi' hy hy' => h.dis i i' y y' b (hu i y b hi hy) (hu i' y' b hi' hy') hy hy', fun i y b hi hy => h.own i y b (hu i y b hi hy) hy, fun i hi x hx => ?_⟩
  · by_cases hic : i = c
    · subst hic
      simp only [upd_same] at hi
      injection hi with hi
      subst hi
      obtain ⟨g, arr, h1, h2, h3, h4⟩ := h.ob i _ hc
      refine ⟨g, arr, (upd_other _ _ hck).trans h1, h2, by simpa using h3, fun j x hj => ?_⟩
      by_cases hj0 : j = l1.length
      · subst hj0
        have h5 := h4 l1.length (.c (.slice none 0 0)) (by simp)
        simp only [List.getElem?_append_right (Nat.le_refl _), Nat.sub_self, List.getElem?_cons_zero, Option.some.injEq] at hj
        subst hj
        rw [h5.c_inv]
        exact .vec (upd_same _ _ _)
      · refine (h4 j x ?_).tr hG _ hl
        rw [List.getElem?_append] at hj ⊢
        split at hj
        · rename_i h6; rw [if_pos h6]; exact hj
        · rename_i h6
          rw [if_neg h6]
          obtain ⟨m, hm⟩ : ∃ m, j - l1.length = m + 1 := ⟨j - l1.length - 1, by omega⟩
          rw [hm, List.getElem?_cons_succ] at hj ⊢
          exact hj
    · simp only [upd_other _ _ hic] at hi
      by_cases hik : i = k
      · subst hik
        simp only [upd_same] at hi
        injection hi with hi
        subst hi
        exact ⟨.slice none 0 0, [], upd_same _ _ _, ⟨by simp, .inl ⟨rfl, rfl⟩⟩, (fun i hi => absurd hi (by omega)), fun i j x hi => absurd hi (by omega)⟩
      · simp only [upd_other _ _ hik] at hi
        exact (h.ob i o hi).tr hG hl (upd_other _ _ hik) fun _ _ _ _ => rfl
  · by_cases hic : i = c
    · subst hic; simp only [upd_same] at hi; cases hi
    · simp only [upd_other _ _ hic] at hi
      by_cases hik : i = k
      · subst hik; rw [upd_same] at hi; cases hi
      · rw [upd_other _ _ hik] at hi ⊢; exact h.no i hi
  · rcases h.le i hi x hx with h1 | ⟨s, v, s', v', h1, h2, h3⟩
    · exact hl i x h1
    · rcases hl i _ h2 with h4 | ⟨s1, v1, s2, v2, h4, h5, h6⟩
      · exact .inr ⟨s, v, s', v', h1, h4, h3⟩
      · injection h4 with h4 h7
        exact .inr ⟨s, v, s2, v2, h1, h5, by omega⟩
structure PfOk (p : Pf) : Prop where
  np : 1 ≤ p.parties ∧ p.parties ≤ 12
  na : (p.assets.length : Int) = p.parties
  nd : p.due.length ≤ 400 ∧ p.later.length ≤ 400 ∧ p.gs.length ≤ 400 ∧ p.ts.length ≤ 400
  ast : ∀ i, i < p.assets.length → asB (p.assets.getD i default) = true
  due : ∀ i, i < p.due.length → dbB p.parties (p.due.getD i default) = true
  later : ∀ i, i < p.later.length → dbB p.parties (p.later.getD i default) = true
  gs : ∀ i, i < p.gs.length → guB p.parties (p.gs.getD i default) = true
  ts : ∀ i, i < p.ts.length → trB p.parties (p.ts.getD i default) = true
theorem validP_iff {p : Pf} : validP p = true ↔ PfOk p := by
  unfold validP
  simp only [Bool.and_eq_true, Bool.not_eq_true', Bool.or_eq_false_iff, decide_eq_false_iff_not, bne_eq_false_iff_eq, allB_iff]
  constructor
  · rintro ⟨h1, h2, h3, h4, ⟨h5, h6⟩, h7, h8⟩
    exact ⟨by omega, by omega, by omega, h4, h5, h6, h7, h8⟩
  · rintro ⟨h1, h2, h3, h4, h5, h6, h7, h8⟩
    exact ⟨by omega, by omega, by omega, h4, ⟨h5, h6⟩, h7, h8⟩
theorem rt_pos {q : Q} (h : qOk q = true) (h1 : 0 ≤ q.1) : 0 ≤ rt q := by
  rw [← rt_zero]
  rw [rt_le h zeroQ_ok]
  have := qOk_iff.1 h
  show 0 * q.2 ≤ q.1 * 1
  omega
theorem PfOk.amt {p : Pf} {l : List Db} (h : ∀ i, i < l.length → dbB p.parties (l.getD i default) = true) : amtOk l := fun i hi => by
  obtain ⟨_, _, _, h4, h5⟩ := dbB_ok (h i hi)
  exact rt_pos h4 (by omega)
theorem PfOk.asOk {p : Pf} (h : PfOk p) : asOk p := fun j hj => by
  have := h.ast j (by have := h.na; omega)
  unfold asB at this
  rw [Bool.and_eq_true] at this
  exact this.1
theorem isPB_iff {P x : Int} : isPB P x = true ↔ 0 ≤ x ∧ x < P := by simp [isPB]
theorem dfl_ok (p : Pf) (hp : pfW p) : Does Try.prog 21 [pfV p] (.tup [blsV (defR p).1.1 (defR p).1.2, .c (.int .i64 (defR p).2)]) := by
  refine defaults_ok p hp (fun h => ?_) (fun h => (validP_iff.1 h).np)
  have ho := validP_iff.1 h
  refine spread_ok p hp (fun i hi => ?_) (fun i hi => ?_) ho.np ho.na (InvS p) (inv_zero p) (inv_step ho.asOk (PfOk.amt ho.due) (PfOk.amt ho.later))
  · have := ho.ts i hi
    have h1 := ho.np
    unfold trB at this
    simp only [Bool.and_eq_true, isPB_iff] at this
    omega
  · have := ho.gs i hi
    have h1 := ho.np
    unfold guB at this
    simp only [Bool.and_eq_true, isPB_iff] at this
    omega
def svD : List Db := [⟨0, 1, (5, 1)⟩, ⟨1, 0, (4, 1)⟩]
def svP (d : List Db) : Pf := ⟨2, [(3, 1), (3, 1)], d, [], [], []⟩
theorem sv_pairs : pairsR 2 (fun i => svD.getD i default) 2 = ([⟨0, 1, (1, 1)⟩], 0) := by kernel_rfl
theorem sv_1 : ((defR (svP svD)).1.1 = 2 ∧ (defR (svP svD)).1.2 0 = true ∧ (defR (svP svD)).1.2 1 = true) ∧ (defR (svP svD)).2 = 0 := by decide +kernel
theorem sv_2 : ((defR (svP [⟨0, 1, (1, 1)⟩])).1.1 = 2 ∧ (defR (svP [⟨0, 1, (1, 1)⟩])).1.2 0 = false ∧ (defR (svP [⟨0, 1, (1, 1)⟩])).1.2 1 = false) ∧ (defR (svP [⟨0, 1, (1, 1)⟩])).2 = 0 := by decide +kernel
end Go.Proofs.Ytbheoblmfjjaaaa
end
section
/- The law's head w21Saved. -/
namespace Go.Proofs.Ytbheoblmfjjaaaa
open Go.Eng
set_option maxRecDepth 10000
set_option linter.unusedSimpArgs false
set_option linter.unusedVariables false
theorem AvS.tupS {l l' : List AV} (h : AvSL l l') : AvS (.tup l) (.tup l') := by
  intro w G ρ v hr
  obtain ⟨cs, rfl, h1, h2⟩ := hr.tup_inv
  obtain ⟨h3, h4⟩ := AvSL.at_ h
  exact .tup (h1.trans h3) fun i y hi => by
    obtain ⟨x, hx, hxy⟩ := h4 i y hi
    exact hxy _ _ _ _ (h2 i x hx)
theorem svW (d : List Db) (hd : ∀ i, i < d.length → dbW (d.getD i default)) : pfW (svP d) := by
  refine ⟨by simp [svP, inK], fun i hi => ?_, hd, fun i hi => absurd hi (Nat.not_lt_zero _)⟩
  rcases i with _ | _ | i <;> first | (simp [svP, qW, inK]; done) | (simp [svP] at hi; omega)
def svA (d : AV) : AV := .agg [.c (.int .i64 2), .rs 2 2 (rowOf [.c (.int .i64 3), .c (.int .i64 1), .c (.int .i64 3), .c (.int .i64 1)] 2), d, .c (.slice none 0 0), .c (.slice none 0 0), .c (.slice none 0 0)]
theorem svA_is {d : AV} {l : List Db} (h : AvS d (dbsL l)) : AvS (svA d) (pfV (svP l)) := by
  refine AvS.agg ⟨AvS.refl _, AvS.rs (fun i hi => ?_), h, AvS.nil, AvS.nil, AvS.nil, trivial⟩
  rcases i with _ | _ | i <;> first | exact AvSL.refl _ | omega
theorem saved_ok : Does Try.prog 15 [] (.c (.bool true)) := by
  have d1 : Does Try.prog 21 [svA (.rs 4 2 (rowOf [.c (.int .i64 0), .c (.int .i64 1), .c (.int .i64 5), .c (.int .i64 1), .c (.int .i64 1), .c (.int .i64 0), .c (.int .i64 4), .c (.int .i64 1)] 4))] (.tup [.rs 1 2 (fun i => [.c (.bool true)]), .c (.int .i64 0)]) := by
    have h := dfl_ok (svP svD) (svW _ (fun i hi => by rcases i with _ | _ | i <;> first | omega | (simp only [svD] at hi; simp at hi; omega) | (simp [svD, dbW, qW, inK]; done)))
    obtain ⟨⟨e1, e2, e3⟩, e4⟩ := sv_1
    rw [e1, e4] at h
    refine Does.argS (args := [pfV (svP svD)]) (h.weaken ?_) ⟨svA_is (AvS.rs fun i hi => ?_), trivial⟩
    · refine AvS.tupS ⟨AvS.rs (fun i hi => ?_), AvS.refl _, trivial⟩
      rcases i with _ | _ | i
      · rw [e2]; exact AvSL.refl _
      · rw [e3]; exact AvSL.refl _
      · omega
    · rcases i with _ | _ | i <;> first | exact AvSL.refl _ | omega
  have d2 : Does Try.prog 21 [svA (.rs 4 1 (fun i => dbC ([(⟨0, 1, (1, 1)⟩ : Db)].getD i default)))] (.tup [.rs 1 2 (fun i => [.c (.bool false)]), .c (.int .i64 0)]) := by
    have h := dfl_ok (svP [⟨0, 1, (1, 1)⟩]) (svW _ (fun i hi => by cases Nat.lt_one_iff.1 hi; simp [dbW, qW, inK]))
    obtain ⟨⟨e1, e2, e3⟩, e4⟩ := sv_2
    rw [e1, e4] at h
    refine Does.argS (args := [pfV (svP [⟨0, 1, (1, 1)⟩])]) (h.weaken ?_) ⟨svA_is (AvS.refl _), trivial⟩
    refine AvS.tupS ⟨AvS.rs (fun i hi => ?_), AvS.refl _, trivial⟩
    rcases i with _ | _ | i
    · rw [e2]; exact AvSL.refl _
    · rw [e3]; exact AvSL.refl _
    · omega
  have pr : Does Try.prog 44 [.c (.int .i64 2), .rs 4 2 (rowOf [.c (.int .i64 0), .c (.int .i64 1), .c (.int .i64 5), .c (.int .i64 1), .c (.int .i64 1), .c (.int .i64 0), .c (.int .i64 4), .c (.int .i64 1)] 4)] (.tup [.rs 4 1 (fun i => dbC ([(⟨0, 1, (1, 1)⟩ : Db)].getD i default)), .c (.int .i64 0)]) := by
    have h := pairs_ok 2 2 (fun i => svD.getD i default) (fun i hi => by rcases i with _ | _ | i <;> first | omega | (simp only [svD] at hi; simp at hi; omega) | (simp [svD, dbW, qW, inK]; done))
    rw [sv_pairs] at h
    refine h.argS ⟨AvS.refl _, (AvS.rs fun i hi => ?_), trivial⟩
    rcases i with _ | _ | i <;> first | exact AvSL.refl _ | omega
  refine Does.mk (fun _ => false) TT_ok Try.func15 rfl (by kernel_rfl) Try.ntmps15 rfl rfl fun E hT hE hN hR => ?_
  have hm : E.P.follows .mixedOrders = true := by rw [hE]; kernel_rfl
  (repeat (first | refine XK.norm rfl rfl ?_ | refine XK.rgnA hT rfl rfl rfl ?_ | refine XK.rgnB hT hm rfl rfl rfl ?_)); refine XK.region ?_; refine XL.goA hT rfl rfl rfl rfl ?_
  refine XL.callLA hE rfl rfl rfl rfl trivial rfl (of_ok 3) rfl ?_
  refine XL.goA hT rfl rfl rfl rfl ?_
  refine XL.callLA hE rfl rfl rfl rfl trivial rfl (of_ok 3) rfl ?_
  refine XL.goA hT rfl rfl rfl rfl ?_
  refine XL.callLA hE rfl rfl rfl rfl trivial rfl (of_ok 5) rfl ?_
  refine XL.goA hT rfl rfl rfl rfl ?_
  refine XL.callLA hE rfl rfl rfl rfl trivial rfl (of_ok 4) rfl ?_
  refine XL.goA hT rfl rfl rfl rfl ?_; refine XL.fin ?_; (repeat (first | refine XK.norm rfl rfl ?_ | refine XK.rgnA hT rfl rfl rfl ?_ | refine XK.rgnB hT hm rfl rfl rfl ?_))
  (repeat (first | refine XK.norm rfl rfl ?_ | refine XK.rgnA hT rfl rfl rfl ?_ | refine XK.rgnB hT hm rfl rfl rfl ?_)); refine XK.region ?_; refine XL.goA hT rfl rfl rfl rfl ?_
  refine XL.callKA hE rfl rfl rfl rfl trivial rfl rfl (d1) ?_
  refine XL.goA hT rfl rfl rfl rfl ?_; refine XL.fin ?_; (repeat (first | refine XK.norm rfl rfl ?_ | refine XK.rgnA hT rfl rfl rfl ?_ | refine XK.rgnB hT hm rfl rfl rfl ?_))
  (repeat (first | refine XK.norm rfl rfl ?_ | refine XK.rgnA hT rfl rfl rfl ?_ | refine XK.rgnB hT hm rfl rfl rfl ?_)); refine XK.region ?_; refine XL.goA hT rfl rfl rfl rfl ?_
  refine XL.callKA hE rfl rfl rfl rfl trivial rfl rfl (pr) ?_
  refine XL.goA hT rfl rfl rfl rfl ?_; refine XL.fin ?_; (repeat (first | refine XK.norm rfl rfl ?_ | refine XK.rgnA hT rfl rfl rfl ?_ | refine XK.rgnB hT hm rfl rfl rfl ?_))
  (repeat (first | refine XK.norm rfl rfl ?_ | refine XK.rgnA hT rfl rfl rfl ?_ | refine XK.rgnB hT hm rfl rfl rfl ?_)); refine XK.region ?_; refine XL.goA hT rfl rfl rfl rfl ?_
  refine XL.callKA hE rfl rfl rfl rfl trivial rfl rfl (d2) ?_
  refine XL.goA hT rfl rfl rfl rfl ?_; refine XL.fin ?_; (repeat (first | refine XK.norm rfl rfl ?_ | refine XK.rgnA hT rfl rfl rfl ?_ | refine XK.rgnB hT hm rfl rfl rfl ?_))
  have b1 : Does Try.prog 22 [.rs 1 2 (fun i => [.c (.bool true)]), .rs 1 2 (rowOf [.c (.bool true), .c (.bool true)] 1)] (.c (.bool true)) :=
    (bools_ok 2 2 (fun _ => true) (fun _ => true)).argS ⟨AvS.refl _, AvS.rs (fun i hi => by rcases i with _ | _ | i <;> first | exact AvSL.refl _ | omega), trivial⟩
  have b2 : Does Try.prog 22 [.rs 1 2 (fun i => [.c (.bool false)]), .rs 1 2 (rowOf [.c (.bool false), .c (.bool false)] 1)] (.c (.bool true)) :=
    (bools_ok 2 2 (fun _ => false) (fun _ => false)).argS ⟨AvS.refl _, AvS.rs (fun i hi => by rcases i with _ | _ | i <;> first | exact AvSL.refl _ | omega), trivial⟩
  (repeat (first | refine XK.norm rfl rfl ?_ | refine XK.rgnA hT rfl rfl rfl ?_ | refine XK.rgnB hT hm rfl rfl rfl ?_)); refine XK.region ?_; refine XL.goA hT rfl rfl rfl rfl ?_
  refine XL.callGA hE rfl rfl rfl rfl rfl rfl rfl rfl (b1) rfl ?_
  refine XL.goA hT rfl rfl rfl rfl ?_
  refine XL.callGA hE rfl rfl rfl rfl rfl rfl rfl rfl (b2) rfl ?_
  refine XL.goA hT rfl rfl rfl rfl ?_; refine XL.fin ?_; (repeat (first | refine XK.norm rfl rfl ?_ | refine XK.rgnA hT rfl rfl rfl ?_ | refine XK.rgnB hT hm rfl rfl rfl ?_))
  (first | refine XK.out rfl rfl rfl ?_ | refine XK.outN rfl rfl rfl ?_)
  rfl
end Go.Proofs.Ytbheoblmfjjaaaa
end
section
/- Plain laws: the portfolio that is told in another order is valid, and has the same defaults. -/
namespace Go.Proofs.Ytbheoblmfjjaaaa
open Go.Eng
set_option maxRecDepth 10000
set_option linter.unusedSimpArgs false
set_option linter.unusedVariables false
theorem def_same {p q : Pf} (hp : validP p = true) (hq : validP q = true) (h : SameP p q) (h1 : (defR p).2 = 0) (h2 : (defR q).2 = 0) : defR q = defR p := by
  unfold defR at h1 h2 ⊢
  rw [hp] at h1 ⊢
  rw [hq] at h2 ⊢
  rw [if_neg (by simp)] at h1 h2 ⊢
  by_cases g1 : (sprR p).2 = 0
  · by_cases g2 : (sprR q).2 = 0
    · rw [if_neg (by simp [g2]), if_neg (by simp [g1]), show sprR q = sprR p from spread_same h (validP_iff.1 hp).asOk 13 _ g1 g2, h.parties]
      rw [if_neg (by simp [g1])]
    · rw [if_pos (by simpa using g2)] at h2
      exact absurd h2 (by simpa using g2)
  · rw [if_pos (by simpa using g1)] at h1
    exact absurd h1 (by simpa using g1)
theorem half_val {a : Q} (ha : qOk a = true) (h : (divR a (2, 1)).2 = 0) : qOk (divR a (2, 1)).1 = true ∧ rt (divR a (2, 1)).1 + rt (divR a (2, 1)).1 = rt a := by
  have h2 : qOk ((2, 1) : Q) = true := by decide
  unfold divR at h ⊢
  rw [ha, h2, Bool.and_self, if_pos rfl] at h ⊢
  have hd := qOk_iff.1 ha
  rw [makeR_toQ (by omega)] at h ⊢
  obtain ⟨e1, e2⟩ := toQ_ok h
  refine ⟨e1, ?_⟩
  rw [e2]
  unfold rt
  have h0 := q2_ne ha
  simp only [Rat.intCast_mul]
  grind
theorem rt_pos_num {q : Q} (h : qOk q = true) (h1 : 0 < rt q) : 0 < q.1 := by
  have h2 : ¬ rt q ≤ 0 := by grind
  rw [← rt_zero] at h2
  rw [rt_le zeroQ_ok h] at h2
  have h3 : ¬ q.1 * 1 ≤ 0 * q.2 := h2
  omega
theorem turn_dbB {P : Int} {l : List Db} {u : Nat} (h : ∀ i, i < l.length → dbB P (l.getD i default) = true) : ∀ i, i < (turnL l u).length → dbB P ((turnL l u).getD i default) = true := fun i hi => by
  rw [turnL_len] at hi
  rw [turnL_getD hi]
  exact h _ (Nat.mod_lt _ (by omega))
theorem turn_W {l : List Db} {u : Nat} (h : ∀ i, i < l.length → dbW (l.getD i default)) : ∀ i, i < (turnL l u).length → dbW ((turnL l u).getD i default) := fun i hi => by
  rw [turnL_len] at hi
  rw [turnL_getD hi]
  exact h _ (Nat.mod_lt _ (by omega))
theorem halfL_len {l : List Db} {k : Nat} {x : Db} : (halfL l k x).length = l.length + 1 := by simp [halfL]
theorem halfL_getD {l : List Db} {k : Nat} {x : Db} {i : Nat} (hi : i < l.length + 1) : (halfL l k x).getD i default = if i = k ∨ i = l.length then x else l.getD i default := by
  unfold halfL
  rw [List.getD_eq_getElem?_getD]
  by_cases h : i < l.length
  · rw [List.getElem?_append_left (by rw [List.length_set]; exact h), List.getElem?_set]
    by_cases hk : k = i
    · subst hk; rw [if_pos rfl, if_pos h, if_pos (.inl rfl)]; rfl
    · rw [if_neg hk, if_neg (by omega), ← List.getD_eq_getElem?_getD]
  · rw [List.getElem?_append_right (by rw [List.length_set]; omega), List.length_set, if_pos (by omega), show i - l.length = 0 by omega]
    rfl
theorem half_all {l : List Db} {k : Nat} {x : Db} {T : Db → Prop} (h : ∀ i, i < l.length → T (l.getD i default)) (hx : T x) : ∀ i, i < (halfL l k x).length → T ((halfL l k x).getD i default) := fun i hi => by
  rw [halfL_len] at hi
  rw [halfL_getD hi]
  split
  · exact hx
  · exact h i (by omega)
theorem rev_all {α : Type} [Inhabited α] {l : List α} {T : α → Prop} (h : ∀ i, i < l.length → T (l.getD i default)) : ∀ i, i < l.reverse.length → T (l.reverse.getD i default) := fun i hi => by
  rw [List.length_reverse] at hi
  rw [List.getD_eq_getElem?_getD, List.getElem?_reverse hi, ← List.getD_eq_getElem?_getD]
  exact h _ (by omega)
def turnP (p : Pf) (D : List Db) (t : Nat) : Pf := ⟨p.parties, p.assets, D, turnL p.later t, p.gs.reverse, p.ts.reverse⟩
theorem turnP_W {p : Pf} (hp : pfW p) {D : List Db} {t : Nat} (hD : ∀ i, i < D.length → dbW (D.getD i default)) : pfW (turnP p D t) := ⟨hp.parties, hp.assets, hD, turn_W hp.later⟩
theorem turnP_ok {p : Pf} (hp : PfOk p) {D : List Db} {t : Nat} (hn : D.length ≤ 400) (hD : ∀ i, i < D.length → dbB p.parties (D.getD i default) = true) : PfOk (turnP p D t) where
  np := hp.np
  na := hp.na
  nd := ⟨hn, by rw [show (turnP p D t).later = turnL p.later t from rfl, turnL_len]; exact hp.nd.2.1, by show p.gs.reverse.length ≤ 400; rw [List.length_reverse]; exact hp.nd.2.2.1, by show p.ts.reverse.length ≤ 400; rw [List.length_reverse]; exact hp.nd.2.2.2⟩
  ast := hp.ast
  due := hD
  later := turn_dbB hp.later
  gs := rev_all (T := fun g => guB p.parties g = true) hp.gs
  ts := rev_all (T := fun g => trB p.parties g = true) hp.ts
theorem turnP_same {p : Pf} {D : List Db} {t : Nat} (hD : ∀ f u, sumD f u D = sumD f u p.due) : SameP p (turnP p D t) :=
  same_of rfl rfl hD (fun f u => sumD_turn) rfl rfl
theorem catF_eqQ (n : Nat) (f h : Nat → List AV) (i : Nat) : catF n f h i = if i < n then f i else h (i - n) := by
  unfold catF
  cases hb : Nat.blt i n with
  | true => rw [if_pos (by simpa [Nat.blt_eq] using hb)]; rfl
  | false =>
    have : ¬ i < n := fun h => by rw [← Nat.blt_eq, hb] at h; cases h
    rw [if_neg this]; rfl
theorem halfRow {l : List Db} {k n : Nat} {x : Db} (hk : k < l.length) (hn : n = l.length) {c : List AV} (hc : c = dbC x) {g : Nat → List AV} (hg : ∀ j, j < n → g j = dbC (l.getD j default)) : ∀ j, j < n + 1 →
    dbC ((halfL l k x).getD j default) = catF n (setRowF g k 0 c) (rowOf c 4) j := by
  intro j hj
  subst hn hc
  rw [halfL_getD hj, catF_eqQ]
  by_cases h : j < l.length
  · rw [if_pos h]
    unfold setRowF
    by_cases hjk : j = k
    · subst hjk
      rw [if_pos (.inl rfl), show Nat.beq j j = true by simp, hg j h]
      rfl
    · rw [if_neg (by omega), beq_false hjk]
      exact (hg j h).symm
  · rw [if_neg h, if_pos (by omega), show j - l.length = 0 by omega]
    rfl
end Go.Proofs.Ytbheoblmfjjaaaa
end
