import Derived.Test.YtlhmgphgnedlkaaGreatZz13
import Derived.Test.YtlhmgphgnedlkaaGreatZz20
set_option linter.unusedSimpArgs false
set_option linter.unusedVariables false
section
/- A run under amendments: stages, plain. -/
namespace Go.Proofs.YtlhmgphgnedlkaaGreat
open Go.Eng
set_option maxRecDepth 10000
def amGd (l : List Am) : Prop := ∀ a ∈ l, amW a ∧ a.patch.clauses.length ≤ 1000000 ∧ a.patch.new.start.length ≤ 1000000
theorem amGd.at {l : List Am} (h : amGd l) {i : Nat} (hi : i < l.length) : amW (l.getD i default) ∧ (l.getD i default).patch.clauses.length ≤ 1000000 ∧ (l.getD i default).patch.new.start.length ≤ 1000000 := h _ (getD_memW hi)
noncomputable def preTo (k : K) (l : List Am) : Nat → K
  | 0 => k
  | i + 1 => if 0 < (l.getD i default).day then preTo k l i else if (applyR (preTo k l i) (l.getD i default).patch).2 = 0 then (applyR (preTo k l i) (l.getD i default).patch).1 else preTo k l i
noncomputable def todTo (l : List Am) (c : K × St) : Nat → K × St
  | 0 => c
  | i + 1 => if (l.getD i default).day ≠ (todTo l c i).2.day then todTo l c i else if (migR (todTo l c i).1 (l.getD i default).patch (todTo l c i).2).2 = 0 then (migR (todTo l c i).1 (l.getD i default).patch (todTo l c i).2).1 else todTo l c i
noncomputable def nextS (l : List Am) (c : K × St) (t : Int) : (K × St) × Int :=
  if (stepS c.1 c.2 t).2 = 0 ∧ t = -1 then (todTo l (c.1, (stepS c.1 c.2 t).1) l.length, 0) else ((c.1, (stepS c.1 c.2 t).1), (stepS c.1 c.2 t).2)
noncomputable def stgTo (k : K) (l : List Am) (tr : List Int) : Nat → (K × St) × Int
  | 0 => ((preTo k l l.length, (startS (preTo k l l.length)).1), (startS (preTo k l l.length)).2)
  | i + 1 => if (stgTo k l tr i).2 ≠ 0 then stgTo k l tr i else nextS l (stgTo k l tr i).1 (tr.getD i default)
def kGd (k : K) : Prop := kW k ∧ (kValid k).1 = 0
def cGd (c : K × St) : Prop := kW c.1 ∧ validS c.1 c.2 = true
theorem cGd.kv {c : K × St} (h : cGd c) : kGd c.1 := ⟨h.1, (validS_len h.2).1⟩
theorem apply_gd {k : K} (h : kGd k) {p : Pt} (hp : ptW p) (h0 : (applyR k p).2 = 0) : kGd (applyR k p).1 := by
  refine ⟨applyR_W h.1 hp, ?_⟩
  rcases applyR_cases k p with ⟨h2, _⟩ | ⟨_, _, _, h2, _⟩
  · exact absurd h0 h2
  · exact h2
theorem preTo_gd {k : K} (h : kGd k) {l : List Am} (hl : amGd l) : ∀ {i : Nat}, i ≤ l.length → kGd (preTo k l i)
  | 0, _ => h
  | i + 1, hi => by
    have ih := preTo_gd h hl (show i ≤ l.length by omega)
    rw [preTo]
    split
    · exact ih
    · split
      · rename_i h0
        exact apply_gd ih (hl.at (show i < l.length by omega)).1.2.2.2 h0
      · exact ih
theorem mig_gd {c : K × St} (h : cGd c) {p : Pt} (hp : ptW p) (h0 : (migR c.1 p c.2).2 = 0) : cGd (migR c.1 p c.2).1 := by
  unfold migR at h0 ⊢
  split at h0
  · exact absurd h0 (by assumption)
  · rename_i h1
    have h1 : (applyR c.1 p).2 = 0 := by simpa using h1
    rw [if_neg (by simpa using h1)]
    exact ⟨applyR_W h.1 hp, migS_valid h.1 hp h1 h.2⟩
theorem todTo_gd {l : List Am} (hl : amGd l) {c : K × St} (h : cGd c) : ∀ {i : Nat}, i ≤ l.length → cGd (todTo l c i)
  | 0, _ => h
  | i + 1, hi => by
    have ih := todTo_gd hl h (show i ≤ l.length by omega)
    rw [todTo]
    split
    · exact ih
    · split
      · rename_i h0
        exact mig_gd ih (hl.at (show i < l.length by omega)).1.2.2.2 h0
      · exact ih
theorem step_gd {c : K × St} (h : cGd c) {t : Int} (h0 : (stepS c.1 c.2 t).2 = 0) : cGd (c.1, (stepS c.1 c.2 t).1) := by
  rcases stepS_cases h.1 c.2 t with ⟨_, e⟩ | ⟨_, _, e⟩ | ⟨_, _, e, hw⟩
  · rw [e] at h0; cases h0
  · rw [e] at h0; cases h0
  · refine ⟨h.1, ?_⟩
    show validS c.1 (stepS c.1 c.2 t).1 = true
    rw [e]
    exact validS_of h.1 h.kv.2 hw
theorem stgTo_gd {k : K} (h : kGd k) {l : List Am} (hl : amGd l) {tr : List Int} : ∀ {i : Nat}, (stgTo k l tr i).2 = 0 → cGd (stgTo k l tr i).1
  | 0, h0 => by
    have hp := preTo_gd h hl (Nat.le_refl _)
    rw [stgTo] at h0 ⊢
    exact ⟨hp.1, (startS_zero hp.1 h0).2.1⟩
  | i + 1, h0 => by
    rw [stgTo] at h0 ⊢
    by_cases he : (stgTo k l tr i).2 = 0
    · have ih := stgTo_gd h hl he
      rw [if_neg (by simpa using he)] at h0 ⊢
      unfold nextS at h0 ⊢
      split at h0
      · rename_i h1
        rw [if_pos h1]
        exact todTo_gd hl (step_gd ih h1.1) (Nat.le_refl _)
      · rename_i h1
        rw [if_neg h1]
        exact step_gd ih h0
    · rw [if_pos he] at h0
      exact absurd h0 he
theorem stg_kGd {k : K} (h : kGd k) {l : List Am} (hl : amGd l) {tr : List Int} : ∀ {i : Nat}, kGd (stgTo k l tr i).1.1
  | 0 => preTo_gd h hl (Nat.le_refl _)
  | i + 1 => by
    have ih := stg_kGd h hl (tr := tr) (i := i)
    rw [stgTo]
    by_cases he : (stgTo k l tr i).2 = 0
    · have hg := stgTo_gd h hl he
      rw [if_neg (by simpa using he)]
      unfold nextS
      split
      · rename_i h1
        exact (todTo_gd hl (step_gd hg h1.1) (Nat.le_refl _)).kv
      · exact ih
    · rw [if_pos he]; exact ih
theorem stg_stop {k : K} {l : List Am} {tr : List Int} {i : Nat} (h : (stgTo k l tr i).2 ≠ 0) : ∀ m, i ≤ m → stgTo k l tr m = stgTo k l tr i := by
  intro m hm
  induction m with
  | zero => have : i = 0 := by omega
            rw [this]
  | succ m ih =>
    by_cases h1 : i = m + 1
    · rw [h1]
    · have h2 := ih (by omega)
      rw [stgTo, if_pos (by rw [h2]; exact h), h2]
end Go.Proofs.YtlhmgphgnedlkaaGreat
end
section
/- Plain laws of migrated marks: what is kept (MigrateKeeps, MigrateFails). -/
namespace Go.Proofs.YtlhmgphgnedlkaaGreat
open Go.Eng
set_option maxRecDepth 10000
def namedN (p : Pt) (i : Nat) : Nat → Bool
  | 0 => false
  | j + 1 => namedN p i j || p.clauses.getD j default == (i : Int)
def namedB (p : Pt) (i : Nat) : Bool := namedN p i p.clauses.length
end Go.Proofs.YtlhmgphgnedlkaaGreat
end
section
/- Plain laws of a longer or shorter span (MigrateSpans). -/
namespace Go.Proofs.YtlhmgphgnedlkaaGreat
open Go.Eng
set_option maxRecDepth 10000
theorem kValid_zero {k : K} (h : (kValid k).1 = 0) : (decide (12 < k.parties) || decide (2000 < k.days) || decide ((12 : Int) < k.holders.length) || decide ((20 : Int) < k.units.length) || decide ((60 : Int) < k.acts.length) || decide ((400 : Int) < k.clauses.length)) = false ∧ framedB k = true ∧ badCl k = none := by
  unfold kValid at h
  split at h
  · cases h
  · rename_i h1
    split at h
    · cases h
    · rename_i h2
      split at h
      · cases h
      · rename_i h3
        exact ⟨by simpa using h1, by simpa using h2, h3⟩
theorem badCl_none {k : K} : badCl k = none ↔ ∀ i, i < k.clauses.length → clauseB k i (k.clauses.getD i default) = true := by
  unfold badCl
  rw [List.find?_eq_none]
  simp
theorem kValid_of {k : K} (h1 : (decide (12 < k.parties) || decide (2000 < k.days) || decide ((12 : Int) < k.holders.length) || decide ((20 : Int) < k.units.length) || decide ((60 : Int) < k.acts.length) || decide ((400 : Int) < k.clauses.length)) = false) (h2 : framedB k = true) (h3 : badCl k = none) : (kValid k).1 = 0 := by
  unfold kValid
  rw [if_neg (by rw [h1]; simp), if_neg (by rw [h2]; simp), h3]
theorem clauseB_span {k k' : K} (hk : k' = { k with clauses := k'.clauses }) (hl : k'.clauses.length = k.clauses.length) {i : Int} {x : Cl} {n : Int} (hn : 1 ≤ n ∧ n ≤ 400) (h : clauseB k i x = true) : clauseB k' i { x with after := n } = true := by
  have hc : condB k' i = condB k i := by funext s; unfold condB; rw [hl]
  have hkb : kindB k' { x with after := n } = kindB k x := by rw [hk]; rfl
  have ha : k'.acts = k.acts := by rw [hk]
  have hu : k'.units = k.units := by rw [hk]
  have hnt : natB k' = natB k := by rw [hk]; rfl
  have hmv : movB k' = movB k := by rw [hk]; rfl
  unfold clauseB at h ⊢
  rw [hkb, hc, ha, hu, hnt, hmv]
  split at h
  · cases h
  · rename_i h1
    rw [if_neg]
    · exact h
    · simp only [Bool.or_eq_true, decide_eq_true_eq, not_or] at h1 ⊢
      omega
theorem zClW : clW default := by
  refine ⟨?_, ?_, ?_, ?_, fun x hx => (by cases hx), ?_, ?_, ?_, ?_, ⟨?_, ?_⟩, ?_, ?_⟩ <;> (show _ ≤ _ ∧ _ ≤ _; decide)
end Go.Proofs.YtlhmgphgnedlkaaGreat
end
section
/- Contracts: package migrate: the stages of a run, one after the other (for Run). -/
namespace Go.Proofs.YtlhmgphgnedlkaaGreat
open Go.Eng
set_option maxRecDepth 10000
instance : Inhabited K := ⟨zeroK⟩
instance : Inhabited St := ⟨zS⟩
def runO (e : Int) (cs : List K) (ss : List St) : List Ob := [.cells 71 [.c (.slice none 0 0)], .cells 35 [.c (.slice none 0 0)], .cells 32 [.c (.int .i64 e)],
  .cells 71 [.vec 5 (2 * cs.length)], .vec 27 7 (2 * cs.length) cs.length (fun i => kC (cs.getD i default)), .cells 35 [.vec 7 (2 * ss.length)], .vec 41 4 (2 * ss.length) ss.length (fun i => stC (ss.getD i default))]
def runN (e : Int) (cs : List K) (ss : List St) : List (Nat × Ob) := [(1, .cells 71 [.c (.slice none 0 0)]), (2, .cells 35 [.c (.slice none 0 0)]), (3, .cells 32 [.c (.int .i64 e)]),
  (4, .cells 71 [.vec 5 (2 * cs.length)]), (5, .vec 27 7 (2 * cs.length) cs.length (fun i => kC (cs.getD i default))), (6, .cells 35 [.vec 7 (2 * ss.length)]), (7, .vec 41 4 (2 * ss.length) ss.length (fun i => stC (ss.getD i default)))]
abbrev RnS := Int × List K × List St
def csR : List AV := frL 79 [(8, .ptr 1 0), (9, .ptr 2 0), (10, .ptr 3 0), (16, .ptr 4 0), (17, .ptr 6 0)]
set_option maxHeartbeats 1000000 in
theorem stages_ok (k : K) (hk : kGd k) (l : List Am) (hl : amGd l) (hln : l.length ≤ 1000000) (tr : List Int) (htn : tr.length ≤ 1000000) (L b : Nat) (mk : LoopState → Option Code → Array Value → Obj) (jmp : Code) (mkE : Array Value → Obj) (st : Nat → RnS)
    (hS : ∀ i, i ≤ tr.length → (stgTo k l tr i).2 ≠ 0 → ∀ m, i + 1 ≤ m → st m = st (i + 1))
    (hY : ∀ i, i ≤ tr.length → (∀ j, j < i → (stgTo k l tr j).2 = 0) →
      DoesR Tryz.prog L [.agg (kC (stgTo k l tr i).1.1 ++ stC (stgTo k l tr i).1.2), .c (.int .i64 (stgTo k l tr i).2)] (.lrec (mk .ready none) b csR :: runO (st i).1 (st i).2.1 (st i).2.2) (.c (.bool ((stgTo k l tr i).2 == 0))) (.lrec (if (stgTo k l tr i).2 = 0 then mk .ready none else mk .done (some jmp)) b csR :: runO (st (i + 1)).1 (st (i + 1)).2.1 (st (i + 1)).2.2))
    (hE : (if (stgTo k l tr tr.length).2 = 0 then mk .ready none else mk .done (some jmp)) = mkE) :
    DoesM Tryz.prog 80 [.fn (.yield L) [] [], .rptr (kC k), .rptr [amsV l], .rptr [intsV tr]] (.lrec (mk .ready none) b csR :: runO (st 0).1 (st 0).2.1 (st 0).2.2) (.tup []) (.lrec mkE b csR :: runO (st (tr.length + 1)).1 (st (tr.length + 1)).2.1 (st (tr.length + 1)).2.2) := by
  subst hE
  refine DoesM.mk (fun _ => false) 100 TT_ok Tryz.func80 rfl (by kernel_rfl) Tryz.ntmps80 rfl rfl rfl fun E hT hE hN hR => ?_
  have hm := mixO hE
  (repeat (first | refine XK.n ?_ | refine XK.a ?_ | refine XK.b ?_))
  refine XK.loop (ι := Nat) (fun i => ST.of [(0, .fn (.yield L) [] []), (1, .rptr (kC k)), (2, .rptr [amsV l]), (3, .rptr [intsV tr]), (5, .ptr 105 0), (20, amsV l), (21, .c (.int .i64 l.length)), (22, .c (.int .i64 i))]
      ((0, .lrec (mk .ready none) b csR) :: (105, .cells 27 (kC (preTo k l i))) :: runN (st 0).1 (st 0).2.1 (st 0).2.2) 1000 112 (fun _ => false))
    (fun i => i ≤ l.length) (fun i => l.length - i) 0 (Nat.zero_le _) (Weak.of hN rfl rfl rfl frI frI) fun i hi => ?_
  (repeat (first | refine XK.n ?_ | refine XK.a ?_ | refine XK.b ?_)); refine XK.cond rfl (fun hlt => ?_) (fun hlt => ?_) <;> (try simp at hlt)
  · have fx : l.getD (i : Int).toNat default = l.getD i default := rfl
    have hp := preTo_gd hk hl (i := i) (by omega)
    have ha := hl.at hlt
    have ap := apply_ok (preTo k l i) hp.1 (l.getD i default).patch ha.1.2.2.2 ha.2.1 ha.2.2
    have hn : preTo k l (i + 1) = if 0 < (l.getD i default).day then preTo k l i else if (applyR (preTo k l i) (l.getD i default).patch).2 = 0 then (applyR (preTo k l i) (l.getD i default).patch).1 else preTo k l i := rfl
    generalize applyR (preTo k l i) (l.getD i default).patch = r at *
    generalize preTo k l i = k1 at *
    (repeat (first | refine XK.n ?_ | refine XK.a ?_ | refine XK.b ?_))
    rw [fx]
    generalize l.getD i default = a at *
    (repeat (first | refine XK.n ?_ | refine XK.a ?_ | refine XK.b ?_)); refine XK.cond rfl (fun h1 => ?_) (fun h1 => ?_) <;> (try simp at h1)
    · rw [if_pos h1] at hn
      (repeat (first | refine XK.n ?_ | refine XK.a ?_ | refine XK.b ?_))
      refine XK.inv ⟨i + 1, hlt, ?_, by omega⟩
      rw [hn]
      exact (Weak.of hN rfl rfl rfl frI frI)
    rw [if_neg (by omega)] at hn
    (repeat (first | refine XK.n ?_ | refine XK.a ?_ | refine XK.b ?_)); refine XK.region ?_; refine XL.g ?_
    refine XL.callKA hE rfl rfl rfl rfl trivial rfl rfl (ap) ?_
    refine XL.g ?_; refine XL.fin ?_; (repeat (first | refine XK.n ?_ | refine XK.a ?_ | refine XK.b ?_))
    (repeat (first | refine XK.n ?_ | refine XK.a ?_ | refine XK.b ?_)); refine XK.cond rfl (fun h2 => ?_) (fun h2 => ?_) <;> (try simp at h2)
    · rw [if_pos h2] at hn
      (repeat (first | refine XK.n ?_ | refine XK.a ?_ | refine XK.b ?_))
      refine XK.inv ⟨i + 1, hlt, ?_, by omega⟩
      rw [hn]
      exact (Weak.of hN rfl rfl rfl frI frI)
    · rw [if_neg h2] at hn
      (repeat (first | refine XK.n ?_ | refine XK.a ?_ | refine XK.b ?_))
      refine XK.inv ⟨i + 1, hlt, ?_, by omega⟩
      rw [hn]
      exact (Weak.of hN rfl rfl rfl frI frI)
  have hie : i = l.length := by omega
  subst hie
  clear hlt hi
  have hp := preTo_gd hk hl (Nat.le_refl _)
  have hs := startS_ok (preTo k l l.length) hp.1
  have h0 : stgTo k l tr 0 = ((preTo k l l.length, (startS (preTo k l l.length)).1), (startS (preTo k l l.length)).2) := rfl
  have hY0 := hY 0 (Nat.zero_le _) (fun j hj => absurd hj (Nat.not_lt_zero _))
  rw [h0] at hY0
  generalize hk1 : preTo k l l.length = k1 at *
  generalize hs1 : startS k1 = s1 at *
  (repeat (first | refine XK.n ?_ | refine XK.a ?_ | refine XK.b ?_))
  (repeat (first | refine XK.n ?_ | refine XK.a ?_ | refine XK.b ?_)); refine XK.region ?_; refine XL.g ?_
  refine XL.callKA hE rfl rfl rfl rfl trivial rfl rfl (hs) ?_
  refine XL.g ?_; refine XL.fin ?_; (repeat (first | refine XK.n ?_ | refine XK.a ?_ | refine XK.b ?_))
  (repeat (first | refine XK.n ?_ | refine XK.a ?_ | refine XK.b ?_))
  (repeat (first | refine XK.n ?_ | refine XK.a ?_ | refine XK.b ?_)); refine XK.region ?_; refine XL.g ?_
  ((refine XL.yieldM [0, 1, 2, 3, 4, 5, 6, 7] hE rfl rfl rfl rfl trivial (hY0) rfl ?_ rfl ?_ rfl rfl rfl ?_); (focus (repeat' (first | exact rfl | exact AvIs.refl _ | exact trivial | (intro i hi; rfl) | exact fun _ _ => ⟨rfl, AvIs.refl _⟩ | (intro i hi; rcases i with _ | _ | _ | _ | _ | _ | _ | i <;> first | rfl | exact absurd hi (by simp; done) | (simp at hi; omega)) | refine ⟨?_, ?_⟩))); (focus (repeat' (first | exact rfl | exact AvIs.refl _ | exact trivial | (intro i hi; rfl) | exact fun _ _ => ⟨rfl, AvIs.refl _⟩ | (intro i hi; rcases i with _ | _ | _ | _ | _ | _ | _ | i <;> first | rfl | exact absurd hi (by simp; done) | (simp at hi; omega)) | refine ⟨?_, ?_⟩))))
  refine XL.g ?_; refine XL.fin ?_; (repeat (first | refine XK.n ?_ | refine XK.a ?_ | refine XK.b ?_))
  by_cases hz : s1.2 = 0
  rotate_left
  · have hlast := hS 0 (Nat.zero_le _) (by rw [h0]; exact hz) (tr.length + 1) (by omega)
    have hstop := stg_stop (k := k) (l := l) (tr := tr) (i := 0) (by rw [h0]; exact hz) tr.length (Nat.zero_le _)
    rw [hlast, hstop, h0]
    (repeat (first | refine XK.n ?_ | refine XK.a ?_ | refine XK.b ?_)); refine XK.cond rfl (fun h5 => ?_) (fun h5 => ?_)
    · (repeat (first | refine XK.n ?_ | refine XK.a ?_ | refine XK.b ?_))
      (first | refine XK.outR [0, 1, 2, 3, 4, 5, 6, 7] hN rfl rfl rfl ?_ rfl rfl ?_ | refine XK.outRN [0, 1, 2, 3, 4, 5, 6, 7] hN rfl rfl rfl ?_ rfl rfl ?_)
      · (repeat' (first | exact rfl | exact AvIs.refl _ | exact trivial | exact fun _ _ => rfl | exact fun _ _ => ⟨rfl, AvIs.refl _⟩ | refine ⟨?_, ?_⟩))
      · (repeat' (first | exact rfl | exact AvIs.refl _ | exact trivial | exact fun _ _ => rfl | exact fun _ _ => ⟨rfl, AvIs.refl _⟩ | refine ⟨?_, ?_⟩))
    · exfalso; simp [hz] at h5
  (repeat (first | refine XK.n ?_ | refine XK.a ?_ | refine XK.b ?_)); refine XK.cond rfl (fun h5 => ?_) (fun h5 => ?_)
  · exfalso; simp [hz] at h5
  clear h5
  (repeat (first | refine XK.n ?_ | refine XK.a ?_ | refine XK.b ?_))
  have hrc : (if ((k1, s1.1), s1.2).2 = 0 then mk LoopState.ready none else mk LoopState.done (some jmp)) = mk .ready none := if_pos hz
  rw [hrc]
  refine XK.loop (ι := Nat) (fun i => ST.of [(0, .fn (.yield L) [] []), (1, .rptr (kC k)), (2, .rptr [amsV l]), (3, .rptr [intsV tr]), (5, .ptr 105 0), (10, .ptr 1122 0), (56, intsV tr), (57, .c (.int .i64 tr.length)), (58, .c (.int .i64 i))]
      ((0, .lrec (mk .ready none) b csR) :: (105, .cells 27 (kC (stgTo k l tr i).1.1)) :: (1122, .cells 41 (stC (stgTo k l tr i).1.2)) :: runN (st (i + 1)).1 (st (i + 1)).2.1 (st (i + 1)).2.2) 2000 112 (fun _ => false))
    (fun i => i ≤ tr.length ∧ ∀ j, j ≤ i → (stgTo k l tr j).2 = 0) (fun i => tr.length - i) 0 ⟨Nat.zero_le _, fun j hj => by rw [show j = 0 by omega, h0]; exact hz⟩ (by rw [h0]; exact (Weak.of hN rfl rfl rfl frI frI)) fun i hi => ?_
  obtain ⟨hi, hz0⟩ := hi
  (repeat (first | refine XK.n ?_ | refine XK.a ?_ | refine XK.b ?_)); refine XK.cond rfl (fun hlt => ?_) (fun hlt => ?_) <;> (try simp at hlt)
  · have fx : tr.getD (i : Int).toNat default = tr.getD i default := rfl
    have hg := stgTo_gd hk hl (hz0 i (Nat.le_refl _))
    have hYi := hY (i + 1) hlt (fun j hj => hz0 j (by omega))
    have hSi := hS (i + 1) hlt
    have hnx : stgTo k l tr (i + 1) = nextS l (stgTo k l tr i).1 (tr.getD i default) := by rw [stgTo, if_neg (by simpa using hz0 i (Nat.le_refl _))]
    have hstop := stg_stop (k := k) (l := l) (tr := tr) (i := i + 1)
    have hzn : (stgTo k l tr (i + 1)).2 = 0 → ∀ j, j ≤ i + 1 → (stgTo k l tr j).2 = 0 := fun h j hj => by
      by_cases e : j = i + 1
      · subst e; exact h
      · exact hz0 j (by omega)
    generalize hnxe : stgTo k l tr (i + 1) = nx at *
    generalize (stgTo k l tr i).1 = c at *
    have hs := stepS_ok c.1 hg.1 c.2 (tr.getD i default)
    have hsg := step_gd hg (t := tr.getD i default)
    have hne : nextS l c (tr.getD i default) = if (stepS c.1 c.2 (tr.getD i default)).2 = 0 ∧ (tr.getD i default) = -1 then (todTo l (c.1, (stepS c.1 c.2 (tr.getD i default)).1) l.length, 0) else ((c.1, (stepS c.1 c.2 (tr.getD i default)).1), (stepS c.1 c.2 (tr.getD i default)).2) := rfl
    rw [← hnx] at hne
    generalize stepS c.1 c.2 (tr.getD i default) = r at *
    (repeat (first | refine XK.n ?_ | refine XK.a ?_ | refine XK.b ?_))
    rw [fx]
    generalize tr.getD i default = t at *
    (repeat (first | refine XK.n ?_ | refine XK.a ?_ | refine XK.b ?_)); refine XK.region ?_; refine XL.g ?_
    refine XL.callKA hE rfl rfl rfl rfl trivial rfl rfl (hs) ?_
    refine XL.g ?_; refine XL.fin ?_; (repeat (first | refine XK.n ?_ | refine XK.a ?_ | refine XK.b ?_))
    (repeat (first | refine XK.n ?_ | refine XK.a ?_ | refine XK.b ?_)); refine XK.join (ST.of [(0, .fn (.yield L) [] []), (1, .rptr (kC k)), (2, .rptr [amsV l]), (3, .rptr [intsV tr]), (5, .ptr 105 0), (10, .ptr 1122 0), (11, .c (.int .i64 nx.2)), (56, intsV tr), (57, .c (.int .i64 tr.length)), (58, .c (.int .i64 i))]
        ((0, .lrec (mk .ready none) b csR) :: (105, .cells 27 (kC nx.1.1)) :: (1122, .cells 41 (stC nx.1.2)) :: runN (st (i + 1)).1 (st (i + 1)).2.1 (st (i + 1)).2.2) 5000 112 (fun _ => false)) rfl (fun h6 => ?_) (fun h6 => ?_) ?_
    · have h6 : r.2 = 0 ∧ t = -1 := by simpa using h6
      rw [if_pos h6] at hne
      have hr0 := h6.1
      have htd := fun j (h : j ≤ l.length) => todTo_gd hl (hsg hr0) h
      have htn : ∀ j, todTo l (c.1, r.1) (j + 1) = if (l.getD j default).day ≠ (todTo l (c.1, r.1) j).2.day then todTo l (c.1, r.1) j else if (migR (todTo l (c.1, r.1) j).1 (l.getD j default).patch (todTo l (c.1, r.1) j).2).2 = 0 then (migR (todTo l (c.1, r.1) j).1 (l.getD j default).patch (todTo l (c.1, r.1) j).2).1 else todTo l (c.1, r.1) j := fun _ => rfl
      have ht0 : todTo l (c.1, r.1) 0 = (c.1, r.1) := rfl
      clear hYi
      generalize htd' : todTo l (c.1, r.1) = td at *
      rw [hne]
      (repeat (first | refine XK.n ?_ | refine XK.a ?_ | refine XK.b ?_))
      refine XK.loop (ι := Nat) (fun j => ST.of [(0, .fn (.yield L) [] []), (1, .rptr (kC k)), (2, .rptr [amsV l]), (3, .rptr [intsV tr]), (5, .ptr 105 0), (10, .ptr 1122 0), (11, .c (.int .i64 0)), (56, intsV tr), (57, .c (.int .i64 tr.length)), (58, .c (.int .i64 i)), (75, amsV l), (76, .c (.int .i64 l.length)), (77, .c (.int .i64 j))]
          ((0, .lrec (mk .ready none) b csR) :: (105, .cells 27 (kC (td j).1)) :: (1122, .cells 41 (stC (td j).2)) :: runN (st (i + 1)).1 (st (i + 1)).2.1 (st (i + 1)).2.2) 3000 112 (fun _ => false))
        (fun j => j ≤ l.length) (fun j => l.length - j) 0 (Nat.zero_le _) (by rw [ht0]; exact Weak.of hN rfl rfl rfl (by (repeat' (first | exact rfl | exact AvIs.refl _ | exact trivial | exact fun _ _ => rfl | exact fun _ _ => ⟨rfl, AvIs.refl _⟩ | exact cI (by omega) | exact (cI (by omega)) | refine ⟨?_, ?_⟩))) frI) fun j hj => ?_
      (repeat (first | refine XK.n ?_ | refine XK.a ?_ | refine XK.b ?_)); refine XK.cond rfl (fun hjl => ?_) (fun hjl => ?_) <;> (try simp at hjl)
      · have fy : l.getD (j : Int).toNat default = l.getD j default := rfl
        have ha := hl.at hjl
        have hgd := htd j hj
        have hn := htn j
        have ap := migrated_ok (td j).1 hgd.1 (l.getD j default).patch ha.1.2.2.2 ha.2.1 ha.2.2 (td j).2 hgd.2
        generalize migR (td j).1 (l.getD j default).patch (td j).2 = q at *
        generalize td j = e1 at *
        (repeat (first | refine XK.n ?_ | refine XK.a ?_ | refine XK.b ?_))
        rw [fy]
        generalize l.getD j default = a at *
        (repeat (first | refine XK.n ?_ | refine XK.a ?_ | refine XK.b ?_)); refine XK.cond rfl (fun h7 => ?_) (fun h7 => ?_) <;> (try simp at h7)
        · rw [if_pos h7] at hn
          (repeat (first | refine XK.n ?_ | refine XK.a ?_ | refine XK.b ?_))
          refine XK.inv ⟨j + 1, hjl, ?_, by omega⟩
          rw [hn]
          exact (Weak.of hN rfl rfl rfl frI frI)
        rw [if_neg (fun h => h h7)] at hn
        (repeat (first | refine XK.n ?_ | refine XK.a ?_ | refine XK.b ?_)); refine XK.region ?_; refine XL.g ?_
        refine XL.callKA hE rfl rfl rfl rfl trivial rfl rfl (ap) ?_
        refine XL.g ?_; refine XL.fin ?_; (repeat (first | refine XK.n ?_ | refine XK.a ?_ | refine XK.b ?_))
        (repeat (first | refine XK.n ?_ | refine XK.a ?_ | refine XK.b ?_)); refine XK.cond rfl (fun h8 => ?_) (fun h8 => ?_) <;> (try simp at h8)
        · rw [if_pos h8] at hn
          (repeat (first | refine XK.n ?_ | refine XK.a ?_ | refine XK.b ?_))
          refine XK.inv ⟨j + 1, hjl, ?_, by omega⟩
          rw [hn]
          exact (Weak.of hN rfl rfl rfl frI frI)
        · rw [if_neg h8] at hn
          (repeat (first | refine XK.n ?_ | refine XK.a ?_ | refine XK.b ?_))
          refine XK.inv ⟨j + 1, hjl, ?_, by omega⟩
          rw [hn]
          exact (Weak.of hN rfl rfl rfl frI frI)
      · have hje : j = l.length := by omega
        subst hje
        (repeat (first | refine XK.n ?_ | refine XK.a ?_ | refine XK.b ?_))
        exact XK.inv (Weak.of hN rfl rfl rfl frI frI)
    · have h6 : ¬ (r.2 = 0 ∧ t = -1) := by simpa using h6
      rw [if_neg h6] at hne
      rw [hne]
      (repeat (first | refine XK.n ?_ | refine XK.a ?_ | refine XK.b ?_))
      exact XK.inv (Weak.of hN rfl rfl rfl frI frI)
    clear hne hnx
    (repeat (first | refine XK.n ?_ | refine XK.a ?_ | refine XK.b ?_)); refine XK.region ?_; refine XL.g ?_
    ((refine XL.yieldM [0, 1, 2, 3, 4, 5, 6, 7] hE rfl rfl rfl rfl trivial (hYi) rfl ?_ rfl ?_ rfl rfl rfl ?_); (focus (repeat' (first | exact rfl | exact AvIs.refl _ | exact trivial | (intro i hi; rfl) | exact fun _ _ => ⟨rfl, AvIs.refl _⟩ | (intro i hi; rcases i with _ | _ | _ | _ | _ | _ | _ | i <;> first | rfl | exact absurd hi (by simp; done) | (simp at hi; omega)) | refine ⟨?_, ?_⟩))); (focus (repeat' (first | exact rfl | exact AvIs.refl _ | exact trivial | (intro i hi; rfl) | exact fun _ _ => ⟨rfl, AvIs.refl _⟩ | (intro i hi; rcases i with _ | _ | _ | _ | _ | _ | _ | i <;> first | rfl | exact absurd hi (by simp; done) | (simp at hi; omega)) | refine ⟨?_, ?_⟩))))
    refine XL.g ?_; refine XL.fin ?_; (repeat (first | refine XK.n ?_ | refine XK.a ?_ | refine XK.b ?_))
    by_cases hz2 : nx.2 = 0
    rotate_left
    · have hlast := hSi hz2 (tr.length + 1) (by omega)
      have hstp := hstop hz2 tr.length (by omega)
      rw [hlast, hstp]
      (repeat (first | refine XK.n ?_ | refine XK.a ?_ | refine XK.b ?_)); refine XK.cond rfl (fun h9 => ?_) (fun h9 => ?_)
      · (repeat (first | refine XK.n ?_ | refine XK.a ?_ | refine XK.b ?_))
        (first | refine XK.outR [0, 1, 2, 3, 4, 5, 6, 7] hN rfl rfl rfl ?_ rfl rfl ?_ | refine XK.outRN [0, 1, 2, 3, 4, 5, 6, 7] hN rfl rfl rfl ?_ rfl rfl ?_)
        · (repeat' (first | exact rfl | exact AvIs.refl _ | exact trivial | exact fun _ _ => rfl | exact fun _ _ => ⟨rfl, AvIs.refl _⟩ | refine ⟨?_, ?_⟩))
        · (repeat' (first | exact rfl | exact AvIs.refl _ | exact trivial | exact fun _ _ => rfl | exact fun _ _ => ⟨rfl, AvIs.refl _⟩ | refine ⟨?_, ?_⟩))
      · exfalso; simp [hz2] at h9
    (repeat (first | refine XK.n ?_ | refine XK.a ?_ | refine XK.b ?_)); refine XK.cond rfl (fun h9 => ?_) (fun h9 => ?_)
    · exfalso; simp [hz2] at h9
    clear h9
    rw [if_pos hz2]
    (repeat (first | refine XK.n ?_ | refine XK.a ?_ | refine XK.b ?_))
    refine XK.inv ⟨i + 1, ⟨hlt, hzn hz2⟩, ?_, by omega⟩
    rw [hnxe]
    exact (Weak.of hN rfl rfl rfl frI frI)
  · have hie : i = tr.length := by omega
    subst hie
    rw [if_pos (hz0 _ (Nat.le_refl _))]
    (repeat (first | refine XK.n ?_ | refine XK.a ?_ | refine XK.b ?_))
    (first | refine XK.outR [0, 1, 2, 3, 4, 5, 6, 7] hN rfl rfl rfl ?_ rfl rfl ?_ | refine XK.outRN [0, 1, 2, 3, 4, 5, 6, 7] hN rfl rfl rfl ?_ rfl rfl ?_)
    · (repeat' (first | exact rfl | exact AvIs.refl _ | exact trivial | exact fun _ _ => rfl | exact fun _ _ => ⟨rfl, AvIs.refl _⟩ | refine ⟨?_, ?_⟩))
    · (repeat' (first | exact rfl | exact AvIs.refl _ | exact trivial | exact fun _ _ => rfl | exact fun _ _ => ⟨rfl, AvIs.refl _⟩ | refine ⟨?_, ?_⟩))
end Go.Proofs.YtlhmgphgnedlkaaGreat
end
section
/- Contracts: the references' small functions of layers 24 and 27. -/
namespace Go.Proofs.YtlhmgphgnedlkaaGreat
open Go.Eng
set_option maxRecDepth 10000
def small24B (p : Pt) : Bool := decide ((p.clauses.length : Int) ≤ 500) && decide ((p.new.start.length : Int) ≤ 20)
theorem small24_ok (p : Pt) : Does Tryz.prog 27 [ptV p] (.c (.bool (small24B p))) := by
  refine Does.mk (fun _ => false) TT_ok Tryz.func27 rfl (by kernel_rfl) Tryz.ntmps27 rfl rfl fun E hT hE hN hR => ?_
  have hm := mixO hE
  (repeat (first | refine XK.n ?_ | refine XK.a ?_ | refine XK.b ?_))
  (first | refine XK.out rfl rfl rfl ?_ | refine XK.outN rfl rfl rfl ?_)
  rfl
end Go.Proofs.YtlhmgphgnedlkaaGreat
end
section
/- Plain facts for the laws of layer 27. -/
namespace Go.Proofs.YtlhmgphgnedlkaaGreat
open Go.Eng
set_option maxRecDepth 10000
theorem small24_facts {p : Pt} (h : small24B p = true) : p.clauses.length ≤ 500 ∧ p.new.start.length ≤ 20 := by
  simp only [small24B, Bool.and_eq_true, decide_eq_true_eq] at h
  omega
theorem migR_e (k : K) (p : Pt) (s : St) : (migR k p s).2 = (applyR k p).2 := by
  unfold migR
  split
  · rfl
  · rename_i h
    have h : (applyR k p).2 = 0 := by simpa using h
    exact h.symm
end Go.Proofs.YtlhmgphgnedlkaaGreat
end
section
/- Patches one after the other, and lists of patches that are merged: plain. -/
namespace Go.Proofs.YtlhmgphgnedlkaaGreat
open Go.Eng
set_option maxRecDepth 10000
def shI (n d i : Int) : Int := if n ≤ i then i + d else i
def shC (n d : Int) (s : Cnd) : Cnd := ⟨shI n d s.clause, s.is⟩
def shCl (n d : Int) (x : Cl) : Cl := { x with start := x.start.map (shC n d) }
def renR (p : Pt) (n d : Int) : Pt := { p with clauses := p.clauses.map (shI n d), new := shCl n d p.new }
theorem shI_lt {n d a b : Int} (hd : 0 ≤ d) (h : a < b) : shI n d a < shI n d b := by
  unfold shI
  split <;> split <;> omega
theorem shI_ne {n d a b : Int} (hd : 0 ≤ d) (h : a ≠ b) : shI n d a ≠ shI n d b := by
  unfold shI
  split <;> split <;> omega
theorem shI_zero (n i : Int) : shI n 0 i = i := by unfold shI; split <;> omega
theorem renR_zero (p : Pt) (n : Int) : renR p n 0 = p := by
  have h1 : shI n 0 = id := funext (shI_zero n)
  have h2 : shC n 0 = id := funext fun s => by unfold shC; rw [shI_zero]; rfl
  unfold renR shCl
  rw [h1, h2, List.map_id, List.map_id]
def restB (k : K) (x : Cl) : Bool := clauseB { k with clauses := [] } 0 { x with start := [] } && decide (x.start.length ≤ 8)
def refB (m i : Int) (s : Cnd) : Bool := decide (0 ≤ s.clause) && decide (s.clause < m) && s.clause != i && decide (1 ≤ s.is) && decide (s.is ≤ 4)
def refsB (m i : Int) (x : Cl) : Bool := x.start.all (refB m i)
theorem condB_iff (k : K) (i : Int) (s : Cnd) : condB k i s = refB k.clauses.length i s := by
  unfold condB refB
  rw [Bool.eq_iff_iff]
  simp only [Bool.not_eq_true', Bool.or_eq_false_iff, Bool.and_eq_true, decide_eq_true_eq, decide_eq_false_iff_not, bne_iff_ne, beq_eq_false_iff_ne]
  omega
theorem clauseB_split (k : K) (i : Int) (x : Cl) : clauseB k i x = (restB k x && refsB k.clauses.length i x) := by
  have hc : condB k i = refB k.clauses.length i := funext (condB_iff k i)
  have hkb : kindB { k with clauses := [] } { x with start := [] } = kindB k x := rfl
  have hnt : natB { k with clauses := [] } = natB k := rfl
  have hmv : movB { k with clauses := [] } = movB k := rfl
  unfold restB refsB clauseB
  rw [hc, hkb, hnt, hmv]
  dsimp only
  generalize x.start.all (refB _ i) = r
  by_cases h8 : x.start.length ≤ 8
  · have e1 : decide ((8 : Int) < x.start.length) = false := by simp only [decide_eq_false_iff_not]; omega
    have e2 : decide (x.start.length ≤ 8) = true := by simpa using h8
    rw [e1, e2, Bool.and_true]
    have e3 : decide ((8 : Int) < ([] : List Cnd).length) = false := by simp
    rw [e3]
    generalize (decide (x.act < 0) || decide ((k.acts.length : Int) ≤ x.act) || decide (x.after < 1) || decide (400 < x.after)) = A
    generalize kindB k x = B
    cases A <;> cases B <;> cases r <;> simp
  · have e1 : decide ((8 : Int) < x.start.length) = true := by simp only [decide_eq_true_eq]; omega
    have e2 : decide (x.start.length ≤ 8) = false := by simpa using h8
    rw [e1, e2, Bool.and_false, Bool.false_and]
    split
    · rfl
    · rw [if_pos (by simp)]
def baseB (k : K) : Bool := !(decide (12 < k.parties) || decide (2000 < k.days) || decide ((12 : Int) < k.holders.length) || decide ((20 : Int) < k.units.length) || decide ((60 : Int) < k.acts.length))
theorem kValid_iff (k : K) : (kValid k).1 = 0 ↔ baseB k = true ∧ framedB k = true ∧ k.clauses.length ≤ 400 ∧ ∀ i : Nat, i < k.clauses.length → restB k (k.clauses.getD i default) = true ∧ refsB k.clauses.length i (k.clauses.getD i default) = true := by
  constructor
  · intro h
    obtain ⟨h1, h2, h3⟩ := kValid_zero h
    rw [Bool.or_eq_false_iff] at h1
    refine ⟨by unfold baseB; rw [h1.1]; rfl, h2, by have := h1.2; simp only [decide_eq_false_iff_not] at this; omega, fun i hi => ?_⟩
    have := badCl_none.1 h3 i hi
    rw [clauseB_split, Bool.and_eq_true] at this
    exact this
  · rintro ⟨h1, h2, h3, h4⟩
    refine kValid_of ?_ h2 (badCl_none.2 fun i hi => by rw [clauseB_split, Bool.and_eq_true]; exact h4 i hi)
    rw [Bool.or_eq_false_iff]
    refine ⟨by simpa [baseB] using h1, by simp only [decide_eq_false_iff_not]; omega⟩
def PV (k : K) (p : Pt) (m : Nat) : Prop :=
  (∃ e, efOf p.kind = some e ∧ fitsB m p e = true) ∧ (p.kind = 1 → m < 400 ∧ restB k p.new = true ∧ refsB (m + 1) m p.new = true) ∧
  (p.kind = 2 → restB k p.new = true ∧ refsB m (p.clauses.getD 0 default) p.new = true)
theorem incB_facts {n : Int} : ∀ {l : List Int} {last : Int}, incB n last l = true → ∀ x ∈ l, last < x ∧ x < n
  | [], _, _, _, h => by cases h
  | a :: l, last, hb, x, hx => by
    simp only [incB, Bool.and_eq_true, decide_eq_true_eq] at hb
    rcases List.mem_cons.1 hx with rfl | hx
    · exact ⟨hb.1.1, hb.1.2⟩
    · have := incB_facts hb.2 x hx
      exact ⟨by omega, this.2⟩
theorem efOf_two {e : Ef} {q : Int} (h : efOf q = some e) (h2 : q = 2) : e.least = 1 ∧ e.most = 1 := by
  subst h2
  have : e = ⟨1, 1, true, false⟩ := by simpa [efOf] using h.symm
  subst this
  exact ⟨rfl, rfl⟩
theorem waive_at {l : List Int} : ∀ {cs : List Cl} {i : Nat}, (waiveL cs l).getD i default = cs.getD i default ∨ (waiveL cs l).getD i default = { cs.getD i default with waived := true } := by
  induction l with
  | nil => intro cs i; exact .inl rfl
  | cons a l ih =>
    intro cs i
    have h : waiveL cs (a :: l) = waiveL (cs.set a.toNat { cs.getD a.toNat default with waived := true }) l := rfl
    rw [h]
    have h2 : (cs.set a.toNat { cs.getD a.toNat default with waived := true }).getD i default = cs.getD i default ∨ (cs.set a.toNat { cs.getD a.toNat default with waived := true }).getD i default = { cs.getD i default with waived := true } := by
      by_cases e : a.toNat = i
      · by_cases hi : i < cs.length
        · right; subst e; simp [List.getD, hi]
        · left; rw [List.set_eq_of_length_le (by omega)]
      · left; simp [List.getD, List.getElem?_set_ne e]
    rcases ih (cs := cs.set a.toNat { cs.getD a.toNat default with waived := true }) (i := i) with h3 | h3
    · rw [h3]; exact h2
    · rw [h3]
      right
      rcases h2 with h2 | h2 <;> rw [h2]
theorem span_at {d : Int} {l : List Int} : ∀ {cs : List Cl} {i : Nat}, (spanL d cs l).getD i default = cs.getD i default ∨ (spanL d cs l).getD i default = { cs.getD i default with after := d } := by
  induction l with
  | nil => intro cs i; exact .inl rfl
  | cons a l ih =>
    intro cs i
    have h : spanL d cs (a :: l) = spanL d (cs.set a.toNat { cs.getD a.toNat default with after := d }) l := rfl
    rw [h]
    have h2 : (cs.set a.toNat { cs.getD a.toNat default with after := d }).getD i default = cs.getD i default ∨ (cs.set a.toNat { cs.getD a.toNat default with after := d }).getD i default = { cs.getD i default with after := d } := by
      by_cases e : a.toNat = i
      · by_cases hi : i < cs.length
        · right; subst e; simp [List.getD, hi]
        · left; rw [List.set_eq_of_length_le (by omega)]
      · left; simp [List.getD, List.getElem?_set_ne e]
    rcases ih (cs := cs.set a.toNat { cs.getD a.toNat default with after := d }) (i := i) with h3 | h3
    · rw [h3]; exact h2
    · rw [h3]
      right
      rcases h2 with h2 | h2 <;> rw [h2]
theorem restB_waived {k : K} {x : Cl} (h : restB k x = true) : restB k { x with waived := true } = true := h
theorem restB_after {k : K} {x : Cl} {d : Int} (hd : 1 ≤ d ∧ d ≤ 400) (h : restB k x = true) : restB k { x with after := d } = true := by
  unfold restB at h ⊢
  rw [Bool.and_eq_true] at h ⊢
  refine ⟨?_, h.2⟩
  exact clauseB_span (x := { x with start := [] }) (k := { k with clauses := [] }) (k' := { k with clauses := [] }) rfl rfl hd h.1
end Go.Proofs.YtlhmgphgnedlkaaGreat
end
section
/- When a patch can be applied; patches that are renumbered. -/
namespace Go.Proofs.YtlhmgphgnedlkaaGreat
open Go.Eng
set_option maxRecDepth 10000
theorem doP_one {cs : List Cl} {p : Pt} (h : p.kind = 1) : doP cs p = cs ++ [p.new] := by unfold doP; rw [if_pos h]
theorem doP_two {cs : List Cl} {p : Pt} (h : p.kind = 2) : doP cs p = cs.set (p.clauses.getD 0 default).toNat p.new := by unfold doP; rw [if_neg (by omega), if_pos h]
theorem doP_five {cs : List Cl} {p : Pt} (h : p.kind = 5) : doP cs p = spanL p.days cs p.clauses := by unfold doP; rw [if_neg (by omega), if_neg (by omega), if_pos h]
theorem doP_else {cs : List Cl} {p : Pt} (h1 : p.kind ≠ 1) (h2 : p.kind ≠ 2) (h5 : p.kind ≠ 5) : doP cs p = waiveL cs p.clauses := by unfold doP; rw [if_neg h1, if_neg h2, if_neg h5]
theorem doP_length (cs : List Cl) (p : Pt) : (doP cs p).length = if p.kind = 1 then cs.length + 1 else cs.length := by
  by_cases h1 : p.kind = 1
  · rw [doP_one h1, if_pos h1]; simp
  · rw [if_neg h1]
    by_cases h2 : p.kind = 2
    · rw [doP_two h2]; simp
    · by_cases h5 : p.kind = 5
      · rw [doP_five h5]; exact spanL_len _ _ _
      · rw [doP_else h1 h2 h5]; exact waiveL_len _ _
theorem fits_two {m : Int} {p : Pt} {e : Ef} (he : efOf p.kind = some e) (hf : fitsB m p e = true) (h : p.kind = 2) : p.clauses.length = 1 ∧ 0 ≤ p.clauses.getD 0 default ∧ p.clauses.getD 0 default < m := by
  obtain ⟨h1, h2⟩ := efOf_two he h
  unfold fitsB at hf
  simp only [Bool.and_eq_true, decide_eq_true_eq] at hf
  have hl : p.clauses.length = 1 := by omega
  have hb := hf.1.1.2
  refine ⟨hl, ?_⟩
  have := incB_facts hb _ (getD_memW (l := p.clauses) (i := 0) (by omega))
  omega
theorem fits_five {m : Int} {p : Pt} {e : Ef} (he : efOf p.kind = some e) (hf : fitsB m p e = true) (h : p.kind = 5) : 1 ≤ p.days ∧ p.days ≤ 400 := by
  rw [h] at he
  have : e = ⟨1, 400, false, true⟩ := by simpa [efOf] using he.symm
  subst this
  unfold fitsB at hf
  simp only [Bool.and_eq_true, decide_eq_true_eq] at hf
  simpa using hf.2
theorem refsB_iff {m i : Int} {x : Cl} : refsB m i x = true ↔ ∀ s ∈ x.start, refB m i s = true := by unfold refsB; rw [List.all_eq_true]
theorem refB_iff {m i : Int} {s : Cnd} : refB m i s = true ↔ 0 ≤ s.clause ∧ s.clause < m ∧ s.clause ≠ i ∧ 1 ≤ s.is ∧ s.is ≤ 4 := by
  unfold refB
  simp only [Bool.and_eq_true, decide_eq_true_eq, bne_iff_ne, and_assoc]
theorem refsB_mono {m n i : Int} {x : Cl} (h : m ≤ n) (hx : refsB m i x = true) : refsB n i x = true := by
  rw [refsB_iff] at hx ⊢
  intro s hs
  have := hx s hs
  rw [refB_iff] at this ⊢
  omega
theorem apply_iff {k : K} (hk : (kValid k).1 = 0) (p : Pt) : (applyR k p).2 = 0 ↔ PV k p k.clauses.length := by
  obtain ⟨b1, b2, b3, b4⟩ := (kValid_iff k).1 hk
  constructor
  · intro h
    rcases applyR_cases k p with ⟨h2, _⟩ | ⟨_, _, h3, h4, e, he, hf⟩
    · exact absurd h h2
    rw [h3] at h4
    obtain ⟨_, _, c3, c4⟩ := (kValid_iff _).1 h4
    dsimp only at c3 c4
    refine ⟨⟨e, he, hf⟩, fun h1 => ?_, fun h2 => ?_⟩
    · rw [doP_one h1] at c3 c4
      rw [List.length_append] at c3 c4
      have := c4 k.clauses.length (by simp)
      have e1 : (k.clauses ++ [p.new]).getD k.clauses.length default = p.new := by simp [List.getD]
      rw [e1] at this
      refine ⟨?_, this.1, ?_⟩
      · simp only [List.length_cons, List.length_nil] at c3; omega
      · have h5 := this.2
        simpa using h5
    · obtain ⟨f1, f2, f3⟩ := fits_two he hf h2
      rw [doP_two h2] at c3 c4
      rw [List.length_set] at c3 c4
      have := c4 (p.clauses.getD 0 default).toNat (by omega)
      have e1 : (k.clauses.set (p.clauses.getD 0 default).toNat p.new).getD (p.clauses.getD 0 default).toNat default = p.new := by
        have : (p.clauses.getD 0 default).toNat < k.clauses.length := by omega
        rw [List.getD_eq_getElem?_getD, List.getElem?_set_self this]
        rfl
      rw [e1] at this
      refine ⟨this.1, ?_⟩
      have h5 := this.2
      rwa [Int.toNat_of_nonneg f2] at h5
  · rintro ⟨⟨e, he, hf⟩, p1, p2⟩
    have hv : (kValid { k with clauses := doP k.clauses p }).1 = 0 := by
      refine (kValid_iff _).2 ⟨b1, b2, ?_, fun i hi => ?_⟩
      · show (doP k.clauses p).length ≤ 400
        rw [doP_length]
        split
        · rename_i h1
          have := (p1 h1).1
          omega
        · exact b3
      · have hi : i < (doP k.clauses p).length := hi
        show restB k ((doP k.clauses p).getD i default) = true ∧ refsB (doP k.clauses p).length i ((doP k.clauses p).getD i default) = true
        have hl := doP_length k.clauses p
        by_cases h1 : p.kind = 1
        · rw [if_pos h1] at hl
          rw [hl] at hi ⊢
          rw [doP_one h1]
          by_cases e1 : i < k.clauses.length
          · have e2 : (k.clauses ++ [p.new]).getD i default = k.clauses.getD i default := by simp [List.getD, List.getElem?_append_left e1]
            rw [e2]
            exact ⟨(b4 i e1).1, refsB_mono (by omega) (b4 i e1).2⟩
          · have e3 : i = k.clauses.length := by omega
            subst e3
            have e2 : (k.clauses ++ [p.new]).getD k.clauses.length default = p.new := by simp [List.getD]
            rw [e2]
            obtain ⟨_, q1, q2⟩ := p1 h1
            exact ⟨q1, by simpa using q2⟩
        · rw [if_neg h1] at hl
          rw [hl] at hi ⊢
          obtain ⟨r1, r2⟩ := b4 i hi
          by_cases h2 : p.kind = 2
          · obtain ⟨f1, f2, f3⟩ := fits_two he hf h2
            obtain ⟨q1, q2⟩ := p2 h2
            rw [doP_two h2]
            by_cases e1 : (p.clauses.getD 0 default).toNat = i
            · have e2 : (k.clauses.set (p.clauses.getD 0 default).toNat p.new).getD i default = p.new := by
                rw [e1, List.getD_eq_getElem?_getD, List.getElem?_set_self hi]
                rfl
              rw [e2]
              refine ⟨q1, ?_⟩
              rwa [← e1, Int.toNat_of_nonneg f2]
            · generalize (p.clauses.getD 0 default).toNat = z at *
              have e2 : (k.clauses.set z p.new).getD i default = k.clauses.getD i default := by simp [List.getD, List.getElem?_set_ne e1]
              rw [e2]
              exact ⟨r1, r2⟩
          · by_cases h5 : p.kind = 5
            · have hd := fits_five he hf h5
              rw [doP_five h5]
              rcases span_at (d := p.days) (l := p.clauses) (cs := k.clauses) (i := i) with e1 | e1 <;> rw [e1]
              · exact ⟨r1, r2⟩
              · exact ⟨restB_after hd r1, r2⟩
            · rw [doP_else h1 h2 h5]
              rcases waive_at (l := p.clauses) (cs := k.clauses) (i := i) with e1 | e1 <;> rw [e1]
              · exact ⟨r1, r2⟩
              · exact ⟨restB_waived r1, r2⟩
    have n3 : ¬ (p.kind = 1 ∧ k.clauses.length = 400) := fun ⟨h1, h2⟩ => by have := (p1 h1).1; omega
    unfold applyR
    rw [if_neg (by simpa using hk), he]
    dsimp only
    rw [if_neg (by rw [hf]; simp), if_neg n3, if_neg (by simpa using hv)]
theorem apply_eq {k : K} {p : Pt} (h : (applyR k p).2 = 0) : (applyR k p).1 = { k with clauses := doP k.clauses p } := by
  rcases applyR_cases k p with ⟨h2, _⟩ | ⟨_, _, h3, _⟩
  · exact absurd h h2
  · exact h3
theorem apply_valid {k : K} {p : Pt} (h : (applyR k p).2 = 0) : (kValid (applyR k p).1).1 = 0 := by
  rcases applyR_cases k p with ⟨h2, _⟩ | ⟨_, _, _, h3, _⟩
  · exact absurd h h2
  · exact h3
theorem incB_shift {n d m : Int} (hd : 0 ≤ d) (hn : n ≤ m) : ∀ {l : List Int} {a : Int}, incB m a l = true → incB (m + d) (shI n d a) (l.map (shI n d)) = true
  | [], _, _ => rfl
  | x :: l, a, h => by
    simp only [incB, Bool.and_eq_true, decide_eq_true_eq] at h
    show incB (m + d) (shI n d a) (shI n d x :: l.map (shI n d)) = true
    simp only [incB, Bool.and_eq_true, decide_eq_true_eq]
    exact ⟨⟨shI_lt hd h.1.1, by unfold shI; split <;> omega⟩, incB_shift hd hn h.2⟩
theorem incB_weak {m a b : Int} (h : b ≤ a) : ∀ {l : List Int}, incB m a l = true → incB m b l = true
  | [], _ => rfl
  | x :: l, h2 => by
    simp only [incB, Bool.and_eq_true, decide_eq_true_eq] at h2 ⊢
    exact ⟨⟨by omega, h2.1.2⟩, h2.2⟩
theorem zeroCl_start {x : Cl} (h : zeroCl x = true) : x.start = [] := by
  unfold zeroCl at h
  simp only [Bool.and_eq_true] at h
  have : (x.start.length : Int) = 0 := by simpa using h.1.1.1.1.1.1.1.1.1.1.1.1.1.1
  exact List.length_eq_zero_iff.1 (by omega)
theorem shCl_nil {x : Cl} {n d : Int} (h : x.start = []) : shCl n d x = x := by
  unfold shCl
  rw [h]
  cases x
  simp only at h
  subst h
  rfl
theorem restB_sh {k : K} {x : Cl} (n d : Int) (h : restB k x = true) : restB k (shCl n d x) = true := by
  unfold restB at h ⊢
  rw [Bool.and_eq_true] at h ⊢
  refine ⟨h.1, ?_⟩
  have := h.2
  simpa [shCl] using this
theorem refsB_sh {n d m i : Int} {x : Cl} (hd : 0 ≤ d) (hn : n ≤ m) (h : refsB m i x = true) : refsB (m + d) (shI n d i) (shCl n d x) = true := by
  rw [refsB_iff] at h ⊢
  intro s hs
  obtain ⟨t, ht, rfl⟩ := List.mem_map.1 hs
  have := h t ht
  rw [refB_iff] at this ⊢
  obtain ⟨a1, a2, a3, a4, a5⟩ := this
  refine ⟨?_, ?_, shI_ne hd a3, a4, a5⟩
  · show 0 ≤ shI n d t.clause
    unfold shI; split <;> omega
  · show shI n d t.clause < m + d
    unfold shI; split <;> omega
theorem PV_sh {k : K} {p : Pt} {m n d : Nat} (hn : n ≤ m) (hm : p.kind = 1 → m + d < 400) (h : PV k p m) : PV k (renR p n d) (m + d) := by
  obtain ⟨⟨e, he, hf⟩, p1, p2⟩ := h
  have hd : (0 : Int) ≤ d := by omega
  have hnm : (n : Int) ≤ m := by omega
  refine ⟨⟨e, he, ?_⟩, fun h1 => ?_, fun h2 => ?_⟩
  · unfold fitsB at hf ⊢
    simp only [Bool.and_eq_true] at hf ⊢
    obtain ⟨⟨⟨⟨f1, f2⟩, f3⟩, f4⟩, f5⟩ := hf
    refine ⟨⟨⟨⟨by simpa [renR] using f1, by simpa [renR] using f2⟩, ?_⟩, ?_⟩, f5⟩
    · have := incB_shift (n := n) hd hnm f3
      rw [Int.natCast_add]
      refine incB_weak (a := shI n d (-1)) ?_ this
      unfold shI; split <;> omega
    · rw [Bool.or_eq_true] at f4 ⊢
      rcases f4 with f4 | f4
      · exact .inl f4
      · right
        show zeroCl (shCl n d p.new) = true
        rw [shCl_nil (zeroCl_start f4)]
        exact f4
  · have h1 : p.kind = 1 := h1
    obtain ⟨q1, q2, q3⟩ := p1 h1
    refine ⟨hm h1, restB_sh _ _ q2, ?_⟩
    have := refsB_sh (n := n) hd (show (n : Int) ≤ m + 1 by omega) q3
    have e1 : shI n d (m : Int) = ((m + d : Nat) : Int) := by unfold shI; rw [if_pos hnm]; omega
    rw [e1] at this
    have e2 : ((m : Int) + 1 + d) = (((m + d : Nat) : Int) + 1) := by omega
    rwa [e2] at this
  · have h2 : p.kind = 2 := h2
    obtain ⟨q2, q3⟩ := p2 h2
    obtain ⟨f1, f2, f3⟩ := fits_two he hf h2
    refine ⟨restB_sh _ _ q2, ?_⟩
    have := refsB_sh (n := n) hd hnm q3
    have e1 : (renR p n d).clauses.getD 0 default = shI n d (p.clauses.getD 0 default) := by
      show (p.clauses.map (shI n d)).getD 0 default = _
      obtain ⟨a, ha⟩ := List.length_eq_one_iff.1 f1
      rw [ha]; rfl
    rw [e1]
    have e2 : ((m + d : Nat) : Int) = (m : Int) + d := by omega
    rwa [e2]
end Go.Proofs.YtlhmgphgnedlkaaGreat
end
section
/- Patches one after the other; merged lists. -/
namespace Go.Proofs.YtlhmgphgnedlkaaGreat
open Go.Eng
set_option maxRecDepth 10000
noncomputable def allTo (k : K) (l : List Pt) : Nat → K × Int
  | 0 => (k, 0)
  | i + 1 => if (allTo k l i).2 ≠ 0 then allTo k l i else applyR (allTo k l i).1 (l.getD i default)
def addP (p : Pt) : Bool := p.kind == 1
def addsN (l : List Pt) (i : Nat) : Nat := (l.take i).countP addP
theorem addsN_succ {l : List Pt} {i : Nat} (hi : i < l.length) : addsN l (i + 1) = if (l.getD i default).kind = 1 then addsN l i + 1 else addsN l i := by
  unfold addsN
  have e : l.getD i default = l[i] := by simp [List.getD, hi]
  rw [List.take_succ_eq_append_getElem hi, List.countP_append, e, List.countP_singleton]
  unfold addP
  by_cases h : l[i].kind = 1
  · rw [if_pos h, if_pos (by simpa using h)]
  · rw [if_neg h, if_neg (by simpa using h), Nat.add_zero]
theorem addsN_le (l : List Pt) (i : Nat) : addsN l i ≤ l.length := by
  unfold addsN
  have := List.countP_le_length (p := addP) (l := l.take i)
  rw [List.length_take] at this
  omega
theorem addsN_mono {l : List Pt} {i j : Nat} (h : i ≤ j) (hj : j ≤ l.length) : addsN l i ≤ addsN l j := by
  induction j with
  | zero => have : i = 0 := by omega
            rw [this]; exact Nat.le_refl _
  | succ j ih =>
    by_cases e : i = j + 1
    · rw [e]; exact Nat.le_refl _
    · have := ih (by omega) (by omega)
      rw [addsN_succ (by omega)]
      split <;> omega
theorem allTo_stop {k : K} {l : List Pt} {i : Nat} (h : (allTo k l i).2 ≠ 0) : ∀ j, i ≤ j → allTo k l j = allTo k l i := by
  intro j hj
  induction j with
  | zero => have : i = 0 := by omega
            rw [this]
  | succ j ih =>
    by_cases e : i = j + 1
    · rw [e]
    · have h2 := ih (by omega)
      rw [allTo, if_pos (by rw [h2]; exact h), h2]
theorem allTo_before {k : K} {l : List Pt} {i : Nat} (h : (allTo k l i).2 = 0) {j : Nat} (hj : j ≤ i) : (allTo k l j).2 = 0 := by
  by_cases h0 : (allTo k l j).2 = 0
  · exact h0
  · rw [allTo_stop h0 i hj] at h; exact absurd h h0
theorem allTo_step {k : K} {l : List Pt} {i : Nat} (h : (allTo k l i).2 = 0) : allTo k l (i + 1) = applyR (allTo k l i).1 (l.getD i default) := by rw [allTo, if_neg (by simpa using h)]
structure AllF (k : K) (l : List Pt) (i : Nat) : Prop where
  ok : (allTo k l i).2 = 0
  valid : (kValid (allTo k l i).1).1 = 0
  len : (allTo k l i).1.clauses.length = k.clauses.length + addsN l i
  fr : (allTo k l i).1 = { k with clauses := (allTo k l i).1.clauses }
theorem allTo_ok {k : K} (hk : (kValid k).1 = 0) {l : List Pt} : ∀ {i : Nat}, i ≤ l.length → (∀ j, j < i → PV k (l.getD j default) (k.clauses.length + addsN l j)) → AllF k l i
  | 0, _, _ => ⟨rfl, hk, by simp [allTo, addsN], rfl⟩
  | i + 1, hi, h => by
    obtain ⟨a1, a2, a3, a4⟩ := allTo_ok hk (i := i) (by omega) fun j hj => h j (by omega)
    have hp := h i (by omega)
    rw [← a3] at hp
    have hp2 : PV (allTo k l i).1 (l.getD i default) (allTo k l i).1.clauses.length := by rw [a4]; exact hp
    have h0 := (apply_iff a2 _).2 hp2
    have he := apply_eq h0
    have hv := apply_valid h0
    rw [← allTo_step a1] at h0 he hv
    refine ⟨h0, hv, ?_, ?_⟩
    · rw [he, addsN_succ (by omega)]
      show (doP _ _).length = _
      rw [doP_length, a3]
      split <;> omega
    · rw [he]
      show ({ (allTo k l i).1 with clauses := _ } : K) = { k with clauses := _ }
      rw [a4]
theorem allTo_all {k : K} (hk : (kValid k).1 = 0) {l : List Pt} : ∀ {i : Nat}, i ≤ l.length → (allTo k l i).2 = 0 → AllF k l i ∧ ∀ j, j < i → PV k (l.getD j default) (k.clauses.length + addsN l j)
  | 0, _, _ => ⟨⟨rfl, hk, by simp [allTo, addsN], rfl⟩, fun j hj => absurd hj (Nat.not_lt_zero _)⟩
  | i + 1, hi, h => by
    have h0 := allTo_before h (show i ≤ i + 1 by omega)
    obtain ⟨⟨a1, a2, a3, a4⟩, a5⟩ := allTo_all hk (i := i) (by omega) h0
    rw [allTo_step a1] at h
    have hp := (apply_iff a2 _).1 h
    rw [a3] at hp
    have hp2 : PV k (l.getD i default) (k.clauses.length + addsN l i) := by rw [a4] at hp; exact hp
    have hall : ∀ j, j < i + 1 → PV k (l.getD j default) (k.clauses.length + addsN l j) := fun j hj => by
      by_cases e : j = i
      · subst e; exact hp2
      · exact a5 j (by omega)
    exact ⟨allTo_ok hk hi hall, hall⟩
def mergL (n : Nat) (left right : List Pt) : List Pt := left.map (fun p => renR p n 0) ++ right.map (fun p => renR p n (addsN left left.length))
theorem mergL_len (n : Nat) (left right : List Pt) : (mergL n left right).length = left.length + right.length := by simp [mergL]
theorem mergL_left {n : Nat} {left right : List Pt} {j : Nat} (h : j < left.length) : (mergL n left right).getD j default = left.getD j default := by
  unfold mergL
  have e : left.map (fun p => renR p n 0) = left := by
    have : (fun p => renR p n 0) = id := funext fun p => renR_zero p n
    rw [this, List.map_id]
  rw [e]
  generalize List.map _ right = r
  simp [List.getD, List.getElem?_append_left h]
theorem mergL_right {n : Nat} {left right : List Pt} {j : Nat} (h : j < right.length) : (mergL n left right).getD (left.length + j) default = renR (right.getD j default) n (addsN left left.length) := by
  unfold mergL
  have e : (left.map (fun p => renR p n 0)).length = left.length := List.length_map _
  generalize left.map (fun p => renR p n 0) = L at *
  rw [← e]
  simp [List.getD, h]
theorem addsN_mergL_left {n : Nat} {left right : List Pt} : ∀ {j : Nat}, j ≤ left.length → addsN (mergL n left right) j = addsN left j
  | 0, _ => rfl
  | j + 1, h => by
    rw [addsN_succ (by rw [mergL_len]; omega), addsN_succ (by omega), addsN_mergL_left (j := j) (by omega), mergL_left (by omega)]
theorem addsN_mergL_right {n : Nat} {left right : List Pt} : ∀ {j : Nat}, j ≤ right.length → addsN (mergL n left right) (left.length + j) = addsN left left.length + addsN right j
  | 0, _ => by rw [Nat.add_zero, addsN_mergL_left (Nat.le_refl _)]; rfl
  | j + 1, h => by
    rw [← Nat.add_assoc, addsN_succ (by rw [mergL_len]; omega), addsN_succ (by omega), addsN_mergL_right (j := j) (by omega), mergL_right (by omega)]
    show (if (right.getD j default).kind = 1 then _ else _) = _
    split <;> omega
theorem merge_PV {k : K} (hk : (kValid k).1 = 0) {left right : List Pt} (hl : (allTo k left left.length).2 = 0) (hr : (allTo k right right.length).2 = 0) (hm : k.clauses.length + addsN left left.length + addsN right right.length ≤ 400) :
    ∀ j, j < (mergL k.clauses.length left right).length → PV k ((mergL k.clauses.length left right).getD j default) (k.clauses.length + addsN (mergL k.clauses.length left right) j) := by
  obtain ⟨-, pl⟩ := allTo_all hk (Nat.le_refl _) hl
  obtain ⟨-, pr⟩ := allTo_all hk (Nat.le_refl _) hr
  intro j hj
  rw [mergL_len] at hj
  by_cases h : j < left.length
  · rw [mergL_left h, addsN_mergL_left (by omega)]
    exact pl j h
  · have e : j = left.length + (j - left.length) := by omega
    generalize j - left.length = t at *
    subst e
    rw [mergL_right (by omega), addsN_mergL_right (by omega)]
    have := PV_sh (n := k.clauses.length) (d := addsN left left.length) (by omega) (fun h1 => ?_) (pr t (by omega))
    · have e : k.clauses.length + addsN right t + addsN left left.length = k.clauses.length + (addsN left left.length + addsN right t) := by omega
      rwa [e] at this
    · have h2 := addsN_succ (l := right) (i := t) (by omega)
      rw [if_pos h1] at h2
      have h3 := addsN_mono (l := right) (i := t + 1) (j := right.length) (by omega) (Nat.le_refl _)
      omega
end Go.Proofs.YtlhmgphgnedlkaaGreat
end
section
/- A state that is migrated by patches one after the other: plain. -/
namespace Go.Proofs.YtlhmgphgnedlkaaGreat
open Go.Eng
set_option maxRecDepth 10000
noncomputable def stMig (k : K) (l : List Pt) (s : St) : Nat → St
  | 0 => s
  | i + 1 => migS (allTo k l i).1 (l.getD i default) (stMig k l s i)
theorem allTo_W {k : K} (hk : kW k) {l : List Pt} (hl : ∀ p ∈ l, ptW p) : ∀ {i : Nat}, i ≤ l.length → kW (allTo k l i).1
  | 0, _ => hk
  | i + 1, hi => by
    have ih := allTo_W hk hl (i := i) (by omega)
    rw [allTo]
    split
    · exact ih
    · exact applyR_W ih (hl _ (getD_memW (by omega)))
theorem stMig_valid {k : K} (hk : kW k) {l : List Pt} (hl : ∀ p ∈ l, ptW p) {s : St} (hs : validS k s = true) (h : (allTo k l l.length).2 = 0) : ∀ {i : Nat}, i ≤ l.length → validS (allTo k l i).1 (stMig k l s i) = true
  | 0, _ => hs
  | i + 1, hi => by
    have ih := stMig_valid hk hl hs h (i := i) (by omega)
    have h1 := allTo_before h hi
    have h0 := allTo_before h (show i ≤ l.length by omega)
    rw [allTo_step h0] at h1 ⊢
    exact migS_valid (allTo_W hk hl (by omega)) (hl _ (getD_memW (by omega))) h1 ih
end Go.Proofs.YtlhmgphgnedlkaaGreat
end
