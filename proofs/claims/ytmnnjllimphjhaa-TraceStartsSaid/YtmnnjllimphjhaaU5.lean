/- Which clauses have started: plain laws. -/
import Derived.Test.YtmnnjllimphjhaaTK
namespace Go.Proofs.Ytmnnjllimphjhaa
open Go.Eng
set_option maxRecDepth 10000
set_option linter.unusedSimpArgs false
set_option linter.unusedVariables false
/-- What changes of statuses keep of conditions that hold. -/
structure Mon (o o' : Oc) : Prop where
  st : o.status ≠ 0 → o'.status ≠ 0
  en : 3 ≤ o.status → o'.status = o.status
theorem Mon.refl (o : Oc) : Mon o o := ⟨id, fun _ => rfl⟩
theorem Mon.trans {a b c : Oc} (h : Mon a b) (h' : Mon b c) : Mon a c := ⟨fun x => h'.st (h.st x), fun x => by rw [h'.en (by rw [h.en x]; exact x), h.en x]⟩
theorem holdsAt_mon {o o' : Oc} (h : Mon o o') {is : Int} (h1 : holdsAt o.status is = true) : holdsAt o'.status is = true := by
  unfold holdsAt at h1 ⊢
  split
  · rename_i h2; rw [if_pos h2] at h1; simp at h1 ⊢; exact h.st h1
  · rename_i h2
    rw [if_neg h2] at h1
    split
    · rename_i h3; rw [if_pos h3] at h1; simp at h1 ⊢; rw [h.en (by omega)]; exact h1
    · rename_i h3
      rw [if_neg h3] at h1
      split
      · rename_i h4; rw [if_pos h4] at h1; simp at h1 ⊢; rw [h.en (by omega)]; exact h1
      · rename_i h4
        rw [if_neg h4] at h1
        split
        · rename_i h5; rw [if_pos h5] at h1; simp at h1 ⊢; rw [h.en (by omega)]; exact h1
        · rename_i h5; rw [if_neg h5] at h1; cases h1
theorem readyB_mon {k : K} {f f' : Nat → Oc} (h : ∀ j, Mon (f j) (f' j)) {i : Nat} (h1 : readyB k f i = true) : readyB k f' i = true := by
  unfold readyB at h1 ⊢
  rw [List.all_eq_true] at h1 ⊢
  exact fun s hs => holdsAt_mon (h _) (h1 s hs)
/-- A clause that waits. -/
def Wants (k : K) (r : Rd) (j : Nat) : Prop := ((clAt k j).start = [] → (j : Int) ∈ r.wait (-1)) ∧ ∀ c ∈ (clAt k j).start, (j : Int) ∈ r.wait c.clause
/-- Clauses that have not started wait; if their conditions hold, one that is known from place n on tells them. -/
structure SInv (k : K) (r : Rd) (kn : List Int) (n : Nat) : Prop where
  mark : ∀ j, j < k.clauses.length → (clAt k j).waived = false → (r.out j).from_ < 0 → (r.out j).status = 0
  run : ∀ j, j < k.clauses.length → 0 ≤ (r.out j).from_ → (r.out j).status ≠ 0
  ready : ∀ j, j < k.clauses.length → 0 ≤ (r.out j).from_ → readyB k r.out j = true
  wants : ∀ j, j < k.clauses.length → (clAt k j).waived = false → (r.out j).from_ < 0 → Wants k r j
  told : ∀ j, j < k.clauses.length → (clAt k j).waived = false → (r.out j).from_ < 0 → readyB k r.out j = true → ∃ m, n ≤ m ∧ m < kn.length ∧ (j : Int) ∈ r.wait (kn.getD m default)
theorem ready_new {k : K} {f f' : Nat → Oc} {i : Nat} (h : readyB k f i = false) (h' : readyB k f' i = true) : ∃ c ∈ (clAt k i).start, holdsAt (f c.clause.toNat).status c.is = false ∧ holdsAt (f' c.clause.toNat).status c.is = true := by
  unfold readyB at h h'
  rw [List.all_eq_true] at h'
  rw [List.all_eq_false] at h
  obtain ⟨c, hc, h1⟩ := h
  exact ⟨c, hc, by simpa using h1, h' c hc⟩
/-- The rounds over the clauses that wait. -/
structure IInv (k : K) (r : Rd) (kn ws : List Int) (p : Nat) (s : Rd × List Int × List Int) : Prop where
  out : ∀ j, s.1.out j = r.out j ∨ ((r.out j).from_ < 0 ∧ 0 ≤ (s.1.out j).from_ ∧ (s.1.out j).status = 1 ∧ Mon (r.out j) (s.1.out j) ∧ readyB k s.1.out j = true ∧ ∃ m, kn.length ≤ m ∧ m < s.2.1.length ∧ s.2.1.getD m default = j)
  done : ∀ q, q < p → 0 ≤ (s.1.out (ws.getD q default).toNat).from_ ∨ (ws.getD q default ∈ s.2.2 ∧ readyB k r.out (ws.getD q default).toNat = false)
theorem IInv.mon {k : K} {r : Rd} {kn ws : List Int} {p : Nat} {s : Rd × List Int × List Int} (h : IInv k r kn ws p s) (j : Nat) : Mon (r.out j) (s.1.out j) := by
  rcases h.out j with h1 | ⟨_, _, _, h2, _⟩
  · rw [h1]; exact Mon.refl _
  · exact h2
theorem getD_app {l l' : List Int} {m : Nat} (h : m < l.length) : (l ++ l').getD m default = l.getD m default := by
  simp only [List.getD_eq_getElem?_getD, List.getElem?_append_left h]
theorem inner_told {k : K} {r : Rd} {kn ws : List Int} {n : Nat} (h : SInv k r kn n) (hst : 0 ≤ r.steps) (hws : ∀ x ∈ ws, (0 ≤ x ∧ x < k.clauses.length) ∧ (clAt k x.toNat).waived = false) : ∀ p, p ≤ ws.length → IInv k r kn ws p (innerTo k r kn ws p)
  | 0, _ => ⟨fun _ => .inl rfl, fun q hq => absurd hq (Nat.not_lt_zero _)⟩
  | p + 1, hp => by
    have ih := inner_told h hst hws p (by omega)
    have hm := getD_mem' (l := ws) (i := p) (by omega)
    obtain ⟨hz, hw⟩ := hws _ hm
    have hin := inner_inv (kn := kn) hst (fun x hx => (hws x hx).1) p (by omega)
    have hss : (innerTo k r kn ws p).1.steps = r.steps := by rw [hin.same]
    have hlen := hin.len
    show IInv k r kn ws (p + 1) (istep k (innerTo k r kn ws p) (ws.getD p default))
    have hlast : ∀ q, q < p + 1 → q < p ∨ q = p := fun q hq => by omega
    generalize hzz : ws.getD p default = z at hm hz hw
    generalize innerTo k r kn ws p = s at ih hss hlen
    unfold istep
    by_cases h1 : readyB k s.1.out z.toNat = false
    · rw [if_pos h1]
      refine ⟨ih.out, fun q hq => ?_⟩
      rcases hlast q hq with hq | rfl
      · rcases ih.done q hq with h2 | ⟨h2, h3⟩
        · exact .inl h2
        · exact .inr ⟨by simp only; exact List.mem_append_left _ h2, h3⟩
      · rw [hzz]
        refine .inr ⟨by simp, ?_⟩
        cases h4 : readyB k r.out z.toNat
        · rfl
        · rw [readyB_mon (fun j => ih.mon j) h4] at h1; cases h1
    · rw [if_neg h1]
      have h1 : readyB k s.1.out z.toNat = true := by simpa using h1
      by_cases h2 : 0 ≤ (s.1.out z.toNat).from_
      · rw [if_pos h2]
        refine ⟨ih.out, fun q hq => ?_⟩
        rcases hlast q hq with hq | rfl
        · exact ih.done q hq
        · rw [hzz]; exact .inl h2
      · rw [if_neg h2]
        have hold : s.1.out z.toNat = r.out z.toNat := by
          rcases ih.out z.toNat with h3 | ⟨_, h3, _⟩
          · exact h3
          · exact absurd h3 h2
        have hm0 := h.mark z.toNat (by omega) hw (by rw [← hold]; omega)
        have hmz : Mon (s.1.out z.toNat) (startOne k s.1 z.toNat) := ⟨fun h => by rw [hold] at h; exact absurd hm0 h, fun h => by rw [hold] at h; omega⟩
        have hfr : 0 ≤ (startOne k s.1 z.toNat).from_ := by simp only [startOne]; omega
        have hup : ∀ j, Mon (s.1.out j) ((s.1.upOut z.toNat (startOne k s.1 z.toNat)).out j) := by
          intro j
          simp only [Rd.upOut]
          by_cases hj : j = z.toNat
          · subst hj; rw [if_pos rfl]; exact hmz
          · rw [if_neg hj]; exact Mon.refl _
        refine ⟨fun j => ?_, fun q hq => ?_⟩
        · by_cases hj : j = z.toNat
          · subst hj
            refine .inr ⟨by rw [← hold]; omega, ?_, ?_, ?_, ?_, s.2.1.length, by omega, by simp, ?_⟩
            · simp only [Rd.upOut, if_pos]; exact hfr
            · simp only [Rd.upOut, if_pos]; rfl
            · have := hup z.toNat; rw [hold] at this; exact this
            · exact readyB_mon hup h1
            · simp [List.getD]; omega
          · have e : (s.1.upOut z.toNat (startOne k s.1 z.toNat)).out j = s.1.out j := by simp [Rd.upOut, hj]
            rcases ih.out j with h3 | ⟨h3, h4, h5, h6, h7, m, h8, h9, h10⟩
            · exact .inl (by simp only; rw [e, h3])
            · refine .inr ⟨h3, by simp only; rw [e]; exact h4, by simp only; rw [e]; exact h5, by simp only; rw [e]; exact h6, readyB_mon hup h7, m, h8, by simp; omega, ?_⟩
              simp only
              rw [getD_app h9]; exact h10
        · rcases hlast q hq with hq | rfl
          · rcases ih.done q hq with h3 | ⟨h3, h4⟩
            · left
              simp only [Rd.upOut]
              split
              · exact hfr
              · exact h3
            · exact .inr ⟨h3, h4⟩
          · left
            rw [hzz]
            simp only [Rd.upOut, if_pos]
            exact hfr
theorem mem_getD {l : List Int} {x : Int} (h : x ∈ l) : ∃ q, q < l.length ∧ l.getD q default = x := by
  obtain ⟨q, hq, rfl⟩ := List.getElem_of_mem h
  exact ⟨q, hq, by simp [List.getD, hq]⟩
theorem round_told {k : K} (hk : KFacts k) {r : Rd} {kn : List Int} {n : Nat} (h : SInv k r kn n) (hn : n < kn.length) (hst : 0 ≤ r.steps) (hw : WaitOk k r) (hnw : WaitNW k r) : SInv k (roundR k r kn n).1 (roundR k r kn n).2 (n + 1) := by
  have hws : ∀ x ∈ r.wait (kn.getD n default), (0 ≤ x ∧ x < k.clauses.length) ∧ (clAt k x.toNat).waived = false := fun x hx => ⟨(hw _).2 x hx, hnw _ x hx⟩
  have hi := inner_told h hst hws _ (Nat.le_refl _)
  have hin := inner_inv (kn := kn) hst (fun x hx => (hws x hx).1) (r.wait (kn.getD n default)).length (Nat.le_refl _)
  unfold roundR
  generalize hz : kn.getD n default = z at hws hi hin
  generalize innerTo k r kn (r.wait z) (r.wait z).length = s at hi hin
  simp only
  have hwait : ∀ y, (putWait s.1 z s.2.2).wait y = if y = z then s.2.2 else r.wait y := by
    intro y
    simp only [putWait]
    rw [show s.1.wait = r.wait by rw [hin.same]]
  have hkeep : ∀ j y, (s.1.out j).from_ < 0 → (j : Int) ∈ r.wait y → (j : Int) ∈ (putWait s.1 z s.2.2).wait y := by
    intro j y hj hy
    rw [hwait]
    split
    · rename_i e
      subst e
      obtain ⟨q, hq, e⟩ := mem_getD hy
      rcases hi.done q hq with h1 | ⟨h1, _⟩
      · rw [e, Int.toNat_natCast] at h1; omega
      · rw [e] at h1; exact h1
    · exact hy
  have hunch : ∀ j, (s.1.out j).from_ < 0 → s.1.out j = r.out j := by
    intro j hj
    rcases hi.out j with h1 | ⟨_, h1, _⟩
    · exact h1
    · omega
  have hwants : ∀ j, j < k.clauses.length → (clAt k j).waived = false → (s.1.out j).from_ < 0 → Wants k (putWait s.1 z s.2.2) j := by
    intro j hj hw hf
    have h1 := h.wants j hj hw (by rw [← hunch j hf]; exact hf)
    exact ⟨fun e => hkeep j _ hf (h1.1 e), fun c hc => hkeep j _ hf (h1.2 c hc)⟩
  refine ⟨fun j hj hw hf => ?_, fun j hj hf => ?_, fun j hj hf => ?_, hwants, fun j hj hw hf hr => ?_⟩
  · have hf : (s.1.out j).from_ < 0 := hf
    show (s.1.out j).status = 0
    have e := hunch j hf
    rw [e] at hf ⊢
    exact h.mark j hj hw hf
  · have hf : 0 ≤ (s.1.out j).from_ := hf
    show (s.1.out j).status ≠ 0
    rcases hi.out j with h1 | ⟨_, _, h1, _⟩
    · rw [h1] at hf ⊢; exact h.run j hj hf
    · rw [h1]; decide
  · have hf : 0 ≤ (s.1.out j).from_ := hf
    show readyB k s.1.out j = true
    rcases hi.out j with h1 | ⟨_, _, _, _, h1, _⟩
    · rw [h1] at hf; exact readyB_mon hi.mon (h.ready j hj hf)
    · exact h1
  · have hf : (s.1.out j).from_ < 0 := hf
    have hr : readyB k s.1.out j = true := hr
    have hfo : (r.out j).from_ < 0 := by rw [← hunch j hf]; exact hf
    obtain ⟨l, hl⟩ := hin.pre
    cases h1 : readyB k r.out j
    · obtain ⟨c, hc, h2, h3⟩ := ready_new h1 hr
      have hcc := hk.cond hj hc
      rcases hi.out c.clause.toNat with h4 | ⟨_, _, _, _, _, m, h5, h6, h7⟩
      · rw [h4] at h3; rw [h3] at h2; cases h2
      · refine ⟨m, by omega, h6, ?_⟩
        rw [h7, Int.toNat_of_nonneg hcc.1]
        exact (hwants j hj hw hf).2 c hc
    · obtain ⟨m, h2, h3, h4⟩ := h.told j hj hw hfo h1
      have hmz : kn.getD m default ≠ z := by
        intro e
        rw [e] at h4
        obtain ⟨q, hq, e⟩ := mem_getD h4
        rcases hi.done q hq with h5 | ⟨_, h5⟩
        · rw [e, Int.toNat_natCast] at h5; omega
        · rw [e, Int.toNat_natCast] at h5; rw [h5] at h1; cases h1
      have hmn : m ≠ n := fun e => hmz (by rw [e]; exact hz)
      refine ⟨m, by omega, by rw [hl]; simp; omega, ?_⟩
      rw [hl, getD_app h3]
      exact hkeep j _ hf h4
theorem SInv.none {k : K} {r : Rd} {kn : List Int} {n : Nat} (h : SInv k r kn n) (hn : kn.length ≤ n) : SInv k r [] 0 :=
  ⟨h.mark, h.run, h.ready, h.wants, fun j hj hw hf hr => by obtain ⟨m, h1, h2, _⟩ := h.told j hj hw hf hr; omega⟩
theorem runS_told {k : K} (hk : KFacts k) : ∀ (f n : Nat) (r : Rd) (kn : List Int), SInv k r kn n → 0 ≤ r.steps → WaitOk k r → WaitNW k r → unst k r.out + kn.length ≤ f + n → SInv k (runS k f n r kn) [] 0
  | 0, n, r, kn, h, _, _, _, hc => h.none (by omega)
  | f + 1, n, r, kn, h, hst, hw, hnw, hc => by
    rw [runS]
    split
    · rename_i hn
      have h1 := round_told hk h hn hst hw hnw
      have h2 := roundR_kept (k := k) (r := r) (kn := kn) (n := n) hst hw
      have h3 := round_rel (k := k) (r := r) (kn := kn) (n := n) hst hw
      have hin := inner_inv (kn := kn) hst (hw (kn.getD n default)).2 (r.wait (kn.getD n default)).length (Nat.le_refl _)
      refine runS_told hk f (n + 1) _ _ h1 (by rw [h2.steps]; exact hst) (h2.wait hw) (hnw.of_rel h3) ?_
      have := hin.cnt
      show unst k (innerTo k r kn (r.wait (kn.getD n default)) (r.wait (kn.getD n default)).length).1.out + (innerTo k r kn (r.wait (kn.getD n default)) (r.wait (kn.getD n default)).length).2.1.length ≤ f + (n + 1)
      omega
    · exact h.none (by omega)
theorem startR_told {k : K} (hk : KFacts k) {r : Rd} {kn : List Int} (h : SInv k r kn 0) (hst : 0 ≤ r.steps) (hw : WaitOk k r) (hnw : WaitNW k r) : SInv k (startR k r kn) [] 0 :=
  runS_told hk _ _ _ _ h hst hw hnw (by omega)
/-- A step's changes, before clauses start. -/
theorem SInv.step {k : K} (hk : KFacts k) {r r' : Rd} {kn : List Int} (h : SInv k r [] 0) (hw : r'.wait = r.wait)
    (H : ∀ j, j < k.clauses.length → (r'.out j).from_ = (r.out j).from_ ∧ Mon (r.out j) (r'.out j) ∧ ((r.out j).status = 0 → (r'.out j).status = 0) ∧ ((∀ is, holdsAt (r'.out j).status is = holdsAt (r.out j).status is) ∨ (j : Int) ∈ kn)) (H2 : ∀ j, k.clauses.length ≤ j → r'.out j = r.out j) : SInv k r' kn 0 := by
  have hmon : ∀ j, Mon (r.out j) (r'.out j) := fun j => by
    by_cases hj : j < k.clauses.length
    · exact (H j hj).2.1
    · rw [H2 j (by omega)]; exact Mon.refl _
  have hwants : ∀ j, j < k.clauses.length → (clAt k j).waived = false → (r'.out j).from_ < 0 → Wants k r' j := fun j hj hww hf => by
    have := h.wants j hj hww (by rw [← (H j hj).1]; exact hf)
    unfold Wants
    rw [hw]; exact this
  refine ⟨fun j hj hw hf => (H j hj).2.2.1 (h.mark j hj hw (by rw [← (H j hj).1]; exact hf)), fun j hj hf => (hmon j).st (h.run j hj (by rw [← (H j hj).1]; exact hf)),
    fun j hj hf => readyB_mon hmon (h.ready j hj (by rw [← (H j hj).1]; exact hf)), hwants, fun j hj hww hf hr => ?_⟩
  have hfo : (r.out j).from_ < 0 := by rw [← (H j hj).1]; exact hf
  cases h1 : readyB k r.out j
  · obtain ⟨c, hc, h2, h3⟩ := ready_new h1 hr
    have hcc := hk.cond hj hc
    rcases (H c.clause.toNat (by omega)).2.2.2 with h4 | h4
    · rw [h4, h2] at h3; cases h3
    · obtain ⟨m, hm, e⟩ := mem_getD h4
      refine ⟨m, Nat.zero_le _, hm, ?_⟩
      rw [e, Int.toNat_of_nonneg hcc.1]
      exact (hwants j hj hww hf).2 c hc
  · obtain ⟨m, _, h3, _⟩ := h.told j hj hww hfo h1
    exact absurd h3 (Nat.not_lt_zero _)
theorem addW_mem {w : Wt2} {z : Int} {i : Nat} : (i : Int) ∈ (addW w z i).1 z ∧ ∀ y x, x ∈ w.1 y → x ∈ (addW w z i).1 y := by
  refine ⟨by simp [addW], fun y x h => ?_⟩
  simp only [addW]
  split
  · exact List.mem_append_left _ h
  · exact h
theorem condsTo_mem {x : Cl} {i : Nat} {w : Wt2} : ∀ m, (∀ q, q < m → (i : Int) ∈ (condsTo x i w m).1 (x.start.getD q default).clause) ∧ ∀ y z, z ∈ w.1 y → z ∈ (condsTo x i w m).1 y
  | 0 => ⟨fun q hq => absurd hq (Nat.not_lt_zero _), fun _ _ h => h⟩
  | m + 1 => by
    obtain ⟨h1, h2⟩ := condsTo_mem (x := x) (i := i) (w := w) m
    have ha := addW_mem (w := condsTo x i w m) (z := (x.start.getD m default).clause) (i := i)
    refine ⟨fun q hq => ?_, fun y z h => ha.2 y z (h2 y z h)⟩
    by_cases e : q = m
    · subst e; exact ha.1
    · exact ha.2 _ _ (h1 q (by omega))
theorem waitTo_mem (k : K) : ∀ n, ∀ j, j < n → (clAt k j).waived = false → ((clAt k j).start = [] → (j : Int) ∈ (waitTo k n).1 (-1)) ∧ ∀ c ∈ (clAt k j).start, (j : Int) ∈ (waitTo k n).1 c.clause
  | 0 => fun j hj => absurd hj (Nat.not_lt_zero _)
  | n + 1 => fun j hj hw => by
    have ih := waitTo_mem k n
    simp only [waitTo]
    by_cases e : j = n
    · subst e
      rw [hw]
      simp only [Bool.false_eq_true, if_false]
      constructor
      · intro h0
        rw [h0]
        simp only [List.length_nil, if_pos]
        exact (condsTo_mem 0).2 _ _ addW_mem.1
      · intro c hc
        obtain ⟨q, hq, e⟩ := List.getElem_of_mem hc
        have : c = (clAt k j).start.getD q default := by simp [List.getD, hq, e]
        rw [this]
        exact (condsTo_mem _).1 q hq
    · have ih := ih j (by omega) hw
      have up : ∀ y z, z ∈ (waitTo k n).1 y → z ∈ (if (clAt k n).waived = true then waitTo k n else condsTo (clAt k n) n (if (clAt k n).start.length = 0 then addW (waitTo k n) (-1) n else waitTo k n) (clAt k n).start.length).1 y := by
        intro y z h
        split
        · exact h
        · refine (condsTo_mem _).2 _ _ ?_
          split
          · exact addW_mem.2 _ _ h
          · exact h
      exact ⟨fun h => up _ _ (ih.1 h), fun c hc => up _ _ (ih.2 c hc)⟩
theorem holdsAt_zero {is : Int} : holdsAt 0 is = false := by
  unfold holdsAt
  (repeat' split) <;> rfl
theorem begin_told {k : K} (hk : KFacts k) : SInv k (begin0 k) (knownTo k k.clauses.length) 0 := by
  have hfr : ∀ j, ((begin0 k).out j).from_ < 0 := fun j => by simp only [begin0, firstOut]; split <;> decide
  have hst : ∀ j, (clAt k j).waived = false → ((begin0 k).out j).status = 0 := fun j h => by simp only [begin0, firstOut, h]; rfl
  refine ⟨fun j _ hw _ => hst j hw, fun j _ h => ?_, fun j _ h => ?_, fun j hj hw _ => waitTo_mem k _ j hj hw, fun j hj hw _ hr => ?_⟩
  · have := hfr j; omega
  · have := hfr j; omega
  · have hwt := waitTo_mem k _ j hj hw
    cases hs : (clAt k j).start with
    | nil => exact ⟨0, Nat.le_refl _, by simp [knownTo], by simpa [knownTo, begin0] using hwt.1 hs⟩
    | cons c L =>
      have hc : c ∈ (clAt k j).start := by rw [hs]; exact List.mem_cons_self
      have hcc := hk.cond hj hc
      have h1 := List.all_eq_true.1 hr c hc
      have h2 : (clAt k c.clause.toNat).waived = true := by
        cases h : (clAt k c.clause.toNat).waived
        · rw [hst _ h, holdsAt_zero] at h1; cases h1
        · rfl
      have h3 : c.clause ∈ knownTo k k.clauses.length := by
        unfold knownTo
        refine List.mem_cons_of_mem _ (List.mem_map.2 ⟨c.clause.toNat, List.mem_filter.2 ⟨List.mem_range.2 (by omega), h2⟩, Int.toNat_of_nonneg hcc.1⟩)
      obtain ⟨m, hm, e⟩ := mem_getD h3
      exact ⟨m, Nat.zero_le _, hm, by rw [e]; exact hwt.2 c hc⟩
/-- Clauses have started exactly if their conditions hold. -/
theorem started_inv {k : K} (hk : KFacts k) {l : List Int} (hl : stepsOk k l) (h9 : l.length < 900000) : ∀ n, n ≤ l.length → SInv k (followR k l n) [] 0
  | 0, _ => startR_told hk (begin_told hk) (by simp [begin0]) (begin0_ok hk).wait (fun z x hx => waitTo_nw k _ z x hx)
  | n + 1, hn => by
    have ih := started_inv hk hl h9 n (by omega)
    obtain ⟨hok, hst⟩ := followR_ok hk l n (by omega)
    have hnw := followR_nw hk l n (by omega)
    have hc := fun j hj => clause_inv hk hl (j := j) hj n (by omega) (by omega)
    have hs := hl n (by omega)
    show SInv k (stepR k (followR k l n) (l.getD n default)) [] 0
    generalize l.getD n default = s at hs
    generalize followR k l n = r at ih hok hst hnw hc
    have h0 := hok.steps
    have hmark : ∀ j, j < k.clauses.length → runsB (r.out j) = true → (r.out j).status = 1 ∨ (r.out j).status = 2 := fun j hj hr => by
      obtain ⟨f, _, _, _, _, h, _⟩ := (hc j hj).runs hr
      exact h
    have h12 : ∀ a b : Int, (a = 1 ∨ a = 2) → (b = 1 ∨ b = 2) → ∀ is, holdsAt a is = holdsAt b is := by
      intro a b ha hb is
      unfold holdsAt
      rcases ha with rfl | rfl <;> rcases hb with rfl | rfl <;> (repeat' split) <;> rfl
    unfold stepR
    split
    · refine startR_told hk (SInv.step hk ih rfl (fun j hj => ?_) (fun j hj => by simp [tickTo, Nat.not_lt.2 hj])) (by simp only [tickTo]; omega) hok.wait hnw
      have e : (tickTo k { r with steps := r.steps + 1 } (freeB k r.day) k.clauses.length).out j = (tickAt k { r with steps := r.steps + 1 } (freeB k r.day) j).1 := by simp [tickTo, hj]
      have em : (tickAt k { r with steps := r.steps + 1 } (freeB k r.day) j).2.2 = true → (j : Int) ∈ endedT k { r with steps := r.steps + 1 } (freeB k r.day) k.clauses.length := fun h => by
        unfold endedT
        exact List.mem_map.2 ⟨j, List.mem_filter.2 ⟨List.mem_range.2 hj, h⟩, rfl⟩
      rw [e]
      have hm := hmark j hj
      simp only [tickAt] at em ⊢
      generalize r.out j = o at *
      generalize r.cnt j = c at *
      generalize clAt k j = x at *
      unfold tickOne at em ⊢
      split at em
      · rename_i h1
        rw [if_pos h1]
        exact ⟨rfl, Mon.refl _, id, .inl fun _ => rfl⟩
      · rename_i h1
        rw [if_neg h1]
        have hr : runsB o = true := by
          cases hr : runsB o
          · simp [hr] at h1
          · rfl
        have hm := hm hr
        split at em
        · rename_i h2
          rw [if_pos h2]
          exact ⟨rfl, Mon.refl _, id, .inl fun _ => rfl⟩
        · rename_i h2
          rw [if_neg h2]
          split at em
          · rename_i h3
            rw [if_pos h3]
            exact ⟨rfl, ⟨fun _ => by simp, fun h => by omega⟩, fun h => by omega, .inl fun is => h12 _ _ (.inr rfl) hm is⟩
          · rename_i h3
            rw [if_neg h3]
            refine ⟨rfl, ⟨fun _ => ?_, fun h => by omega⟩, fun h => by omega, .inr (em rfl)⟩
            simp only
            (repeat' split) <;> decide
    · rename_i hs1
      have hs0 := hs.resolve_left hs1
      have hsm := actR_same k { r with steps := r.steps + 1 } s.toNat
      refine startR_told hk (SInv.step hk ih hsm.1 (fun j hj => ?_) (fun j hj => ?_)) (by rw [hsm.2.1]; simp only; omega) (by unfold WaitOk; rw [hsm.1]; exact hok.wait) (by unfold WaitNW; rw [hsm.1]; exact hnw)
      · have e : (actTo k { r with steps := r.steps + 1 } s.toNat k.clauses.length).out j = (actAt1 k { r with steps := r.steps + 1 } s.toNat j).1 := by simp [actTo, hj]
        have em : (actAt1 k { r with steps := r.steps + 1 } s.toNat j).2.2 = true → (j : Int) ∈ endedA k { r with steps := r.steps + 1 } s.toNat k.clauses.length := fun h => by
          unfold endedA
          exact List.mem_map.2 ⟨j, List.mem_filter.2 ⟨List.mem_range.2 hj, h⟩, rfl⟩
        have hst2 : ((actR k { r with steps := r.steps + 1 } s.toNat).out j).status = ((actAt1 k { r with steps := r.steps + 1 } s.toNat j).1).status ∧ ((actR k { r with steps := r.steps + 1 } s.toNat).out j).from_ = ((actAt1 k { r with steps := r.steps + 1 } s.toNat j).1).from_ := by
          rcases actR_out k { r with steps := r.steps + 1 } s.toNat j with h7 | ⟨_, _, _, _, _, h8⟩
          · rw [h7, e]; exact ⟨rfl, rfl⟩
          · rw [h8, e]; exact ⟨rfl, rfl⟩
        have hm := hmark j hj
        have key : ((actAt1 k { r with steps := r.steps + 1 } s.toNat j).1).from_ = (r.out j).from_ ∧ (((actAt1 k { r with steps := r.steps + 1 } s.toNat j).1).status = (r.out j).status ∨ ((runsB (r.out j) = true ∧ 3 ≤ ((actAt1 k { r with steps := r.steps + 1 } s.toNat j).1).status) ∧ (actAt1 k { r with steps := r.steps + 1 } s.toNat j).2.2 = true)) := by
          unfold actAt1 actOne
          simp only
          generalize r.out j = o at *
          split
          · rename_i hr
            simp only
            split
            · unfold countOne
              (repeat' split) <;> first | exact ⟨rfl, .inl rfl⟩ | exact ⟨rfl, .inr ⟨⟨hr, by simp⟩, rfl⟩⟩
            · exact ⟨rfl, .inl rfl⟩
          · exact ⟨rfl, .inl rfl⟩
        obtain ⟨k1, k2⟩ := key
        refine ⟨hst2.2.trans k1, ?_⟩
        rcases k2 with k2 | ⟨⟨k2, k3⟩, k4⟩
        · have k5 := hst2.1.trans k2
          exact ⟨⟨fun h => by rw [k5]; exact h, fun _ => k5⟩, fun h => by rw [k5]; exact h, .inl fun is => by rw [k5]⟩
        · have k5 := hm k2
          rw [← hst2.1] at k3
          exact ⟨⟨fun _ => by omega, fun h => by omega⟩, fun h => by omega, .inr (em k4)⟩
      · unfold actR
        simp only
        split <;> simp [actTo, novTo, Nat.not_lt.2 hj]
end Go.Proofs.Ytmnnjllimphjhaa
