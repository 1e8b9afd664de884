import Derived.Test.YtofdehlikigonaaGreatH5
import Derived.Test.YtofdehlikigonaaGreatS5
import Derived.Test.YtofdehlikigonaaGreatQ4
section
/- A state carried over: the state that is returned. -/
namespace Go.Proofs.YtofdehlikigonaaGreat
open Go.Eng
set_option maxRecDepth 10000
set_option linter.unusedSimpArgs false
set_option linter.unusedVariables false
theorem range_getD {α : Type} [Inhabited α] (l : List α) (f : Nat → α) (n : Nat) (hn : l.length = n) (hf : ∀ i, f i = l.getD i default) : (List.range n).map f = l := by
  apply List.ext_getElem?
  intro i
  rw [List.getElem?_map]
  by_cases h : i < n
  · rw [List.getElem?_range h, Option.map_some, hf, List.getD_eq_getElem?_getD, List.getElem?_eq_getElem (by omega)]
    rfl
  · rw [List.getElem?_eq_none (by simp; omega), List.getElem?_eq_none (by omega)]; rfl
theorem migW_rel {k : K} {p : Pt} {s : St} : SRel (applyR k p).1 ⟨s.day, fun i => s.holders.getD i default, fun i => s.used.getD i default, migM k p s⟩ (migW k p s) := (startW_spec _ _).1
theorem migS_eq {k : K} {p : Pt} (h : PFacts k p) {s : St} (hv : validS k s = true) : migS k p s = outS (applyR k p).1 (migW k p s) := by
  obtain ⟨l0, l1, l2, l3, -⟩ := validS_len hv
  have hr := migW_rel (k := k) (p := p) (s := s)
  have h1 : (List.range (applyR k p).1.holders.length).map (migW k p s).hold = s.holders := range_getD _ _ _ (by rw [h.eq]; exact l1) fun i => by rw [hr.hold]
  have h2 : (List.range (applyR k p).1.acts.length).map (migW k p s).used = s.used := range_getD _ _ _ (by rw [h.eq]; exact l2) fun i => by rw [hr.used]
  unfold migS outS
  rw [h1, h2, hr.day]
/-- The migrated state is well-formed for the amended contract. -/
theorem migS_valid {k : K} {p : Pt} (hk : kW k) (hp : ptW p) (h0 : (applyR k p).2 = 0) {s : St} (hv : validS k s = true) : validS (applyR k p).1 (migS k p s) = true := by
  have h := patch_facts hk hp h0
  rw [migS_eq h hv]
  have hkk : kW (applyR k p).1 ∧ (kValid (applyR k p).1).1 = 0 := by
    refine ⟨applyR_W hk hp, ?_⟩
    rcases applyR_cases k p with ⟨h2, _⟩ | ⟨_, _, _, h2, _⟩
    · exact absurd h0 h2
    · exact h2
  exact validS_of hkk.1 hkk.2 (mig_WOk h hv)
end Go.Proofs.YtofdehlikigonaaGreat
end
section
/- A run under amendments: stages, plain. -/
namespace Go.Proofs.YtofdehlikigonaaGreat
open Go.Eng
set_option maxRecDepth 10000
set_option linter.unusedSimpArgs false
set_option linter.unusedVariables false
def amGd (l : List Am) : Prop := ∀ a ∈ l, amW a ∧ a.patch.clauses.length ≤ 1000000 ∧ a.patch.new.start.length ≤ 1000000
theorem amGd.at {l : List Am} (h : amGd l) {i : Nat} (hi : i < l.length) : amW (l.getD i default) ∧ (l.getD i default).patch.clauses.length ≤ 1000000 ∧ (l.getD i default).patch.new.start.length ≤ 1000000 := h _ (getD_memW hi)
/-- The contract after the amendments of the days up to 0. -/
noncomputable def preTo (k : K) (l : List Am) : Nat → K
  | 0 => k
  | i + 1 => if 0 < (l.getD i default).day then preTo k l i else if (applyR (preTo k l i) (l.getD i default).patch).2 = 0 then (applyR (preTo k l i) (l.getD i default).patch).1 else preTo k l i
/-- Contract and state after the amendments of the day. -/
noncomputable def todTo (l : List Am) (c : K × St) : Nat → K × St
  | 0 => c
  | i + 1 => if (l.getD i default).day ≠ (todTo l c i).2.day then todTo l c i else if (migR (todTo l c i).1 (l.getD i default).patch (todTo l c i).2).2 = 0 then (migR (todTo l c i).1 (l.getD i default).patch (todTo l c i).2).1 else todTo l c i
noncomputable def nextS (l : List Am) (c : K × St) (t : Int) : (K × St) × Int :=
  if (stepS c.1 c.2 t).2 = 0 ∧ t = -1 then (todTo l (c.1, (stepS c.1 c.2 t).1) l.length, 0) else ((c.1, (stepS c.1 c.2 t).1), (stepS c.1 c.2 t).2)
noncomputable def stgTo (k : K) (l : List Am) (tr : List Int) : Nat → (K × St) × Int
  | 0 => ((preTo k l l.length, (startS (preTo k l l.length)).1), (startS (preTo k l l.length)).2)
  | i + 1 => if (stgTo k l tr i).2 ≠ 0 then stgTo k l tr i else nextS l (stgTo k l tr i).1 (tr.getD i default)
def kGd (k : K) : Prop := kW k ∧ (kValid k).1 = 0
def cGd (c : K × St) : Prop := kW c.1 ∧ validS c.1 c.2 = true
theorem cGd.kv {c : K × St} (h : cGd c) : kGd c.1 := ⟨h.1, (validS_len h.2).1⟩
theorem apply_gd {k : K} (h : kGd k) {p : Pt} (hp : ptW p) (h0 : (applyR k p).2 = 0) : kGd (applyR k p).1 := by
  refine ⟨applyR_W h.1 hp, ?_⟩
  rcases applyR_cases k p with ⟨h2, _⟩ | ⟨_, _, _, h2, _⟩
  · exact absurd h0 h2
  · exact h2
theorem preTo_gd {k : K} (h : kGd k) {l : List Am} (hl : amGd l) : ∀ {i : Nat}, i ≤ l.length → kGd (preTo k l i)
  | 0, _ => h
  | i + 1, hi => by
    have ih := preTo_gd h hl (show i ≤ l.length by omega)
    rw [preTo]
    split
    · exact ih
    · split
      · rename_i h0
        exact apply_gd ih (hl.at (show i < l.length by omega)).1.2.2.2 h0
      · exact ih
theorem mig_gd {c : K × St} (h : cGd c) {p : Pt} (hp : ptW p) (h0 : (migR c.1 p c.2).2 = 0) : cGd (migR c.1 p c.2).1 := by
  unfold migR at h0 ⊢
  split at h0
  · exact absurd h0 (by assumption)
  · rename_i h1
    have h1 : (applyR c.1 p).2 = 0 := by simpa using h1
    rw [if_neg (by simpa using h1)]
    exact ⟨applyR_W h.1 hp, migS_valid h.1 hp h1 h.2⟩
theorem todTo_gd {l : List Am} (hl : amGd l) {c : K × St} (h : cGd c) : ∀ {i : Nat}, i ≤ l.length → cGd (todTo l c i)
  | 0, _ => h
  | i + 1, hi => by
    have ih := todTo_gd hl h (show i ≤ l.length by omega)
    rw [todTo]
    split
    · exact ih
    · split
      · rename_i h0
        exact mig_gd ih (hl.at (show i < l.length by omega)).1.2.2.2 h0
      · exact ih
theorem step_gd {c : K × St} (h : cGd c) {t : Int} (h0 : (stepS c.1 c.2 t).2 = 0) : cGd (c.1, (stepS c.1 c.2 t).1) := by
  rcases stepS_cases h.1 c.2 t with ⟨_, e⟩ | ⟨_, _, e⟩ | ⟨_, _, e, hw⟩
  · rw [e] at h0; cases h0
  · rw [e] at h0; cases h0
  · refine ⟨h.1, ?_⟩
    show validS c.1 (stepS c.1 c.2 t).1 = true
    rw [e]
    exact validS_of h.1 h.kv.2 hw
theorem stgTo_gd {k : K} (h : kGd k) {l : List Am} (hl : amGd l) {tr : List Int} : ∀ {i : Nat}, (stgTo k l tr i).2 = 0 → cGd (stgTo k l tr i).1
  | 0, h0 => by
    have hp := preTo_gd h hl (Nat.le_refl _)
    rw [stgTo] at h0 ⊢
    exact ⟨hp.1, (startS_zero hp.1 h0).2.1⟩
  | i + 1, h0 => by
    rw [stgTo] at h0 ⊢
    by_cases he : (stgTo k l tr i).2 = 0
    · have ih := stgTo_gd h hl he
      rw [if_neg (by simpa using he)] at h0 ⊢
      unfold nextS at h0 ⊢
      split at h0
      · rename_i h1
        rw [if_pos h1]
        exact todTo_gd hl (step_gd ih h1.1) (Nat.le_refl _)
      · rename_i h1
        rw [if_neg h1]
        exact step_gd ih h0
    · rw [if_pos he] at h0
      exact absurd h0 he
theorem stg_kGd {k : K} (h : kGd k) {l : List Am} (hl : amGd l) {tr : List Int} : ∀ {i : Nat}, kGd (stgTo k l tr i).1.1
  | 0 => preTo_gd h hl (Nat.le_refl _)
  | i + 1 => by
    have ih := stg_kGd h hl (tr := tr) (i := i)
    rw [stgTo]
    by_cases he : (stgTo k l tr i).2 = 0
    · have hg := stgTo_gd h hl he
      rw [if_neg (by simpa using he)]
      unfold nextS
      split
      · rename_i h1
        exact (todTo_gd hl (step_gd hg h1.1) (Nat.le_refl _)).kv
      · exact ih
    · rw [if_pos he]; exact ih
theorem stg_stop {k : K} {l : List Am} {tr : List Int} {i : Nat} (h : (stgTo k l tr i).2 ≠ 0) : ∀ m, i ≤ m → stgTo k l tr m = stgTo k l tr i := by
  intro m hm
  induction m with
  | zero => have : i = 0 := by omega
            rw [this]
  | succ m ih =>
    by_cases h1 : i = m + 1
    · rw [h1]
    · have h2 := ih (by omega)
      rw [stgTo, if_pos (by rw [h2]; exact h), h2]
end Go.Proofs.YtofdehlikigonaaGreat
end
section
/- Contracts: package migrate: the stages of a run, one after the other (for Run). -/
namespace Go.Proofs.YtofdehlikigonaaGreat
open Go.Eng
set_option maxRecDepth 10000
set_option linter.unusedSimpArgs false
set_option linter.unusedVariables false
instance : Inhabited K := ⟨zeroK⟩
instance : Inhabited St := ⟨zS⟩
/-- What Run writes: its results, the contracts and the states so far. -/
def runO (e : Int) (cs : List K) (ss : List St) : List Ob := [.cells 57 [.c (.slice none 0 0)], .cells 58 [.c (.slice none 0 0)], .cells 43 [.c (.int .i64 e)],
  .cells 57 [.vec 5 (2 * cs.length)], .vec 27 7 (2 * cs.length) cs.length (fun i => kC (cs.getD i default)), .cells 58 [.vec 7 (2 * ss.length)], .vec 38 4 (2 * ss.length) ss.length (fun i => stC (ss.getD i default))]
def runN (e : Int) (cs : List K) (ss : List St) : List (Nat × Ob) := [(1, .cells 57 [.c (.slice none 0 0)]), (2, .cells 58 [.c (.slice none 0 0)]), (3, .cells 43 [.c (.int .i64 e)]),
  (4, .cells 57 [.vec 5 (2 * cs.length)]), (5, .vec 27 7 (2 * cs.length) cs.length (fun i => kC (cs.getD i default))), (6, .cells 58 [.vec 7 (2 * ss.length)]), (7, .vec 38 4 (2 * ss.length) ss.length (fun i => stC (ss.getD i default)))]
/-- What Run holds before the i-th stage is yielded. -/
abbrev RnS := Int × List K × List St
def csR : List AV := frL 79 [(8, .ptr 1 0), (9, .ptr 2 0), (10, .ptr 3 0), (16, .ptr 4 0), (17, .ptr 6 0)]
set_option maxHeartbeats 1000000 in
theorem stages_ok (k : K) (hk : kGd k) (l : List Am) (hl : amGd l) (hln : l.length ≤ 1000000) (tr : List Int) (htn : tr.length ≤ 1000000) (L b : Nat) (mk : LoopState → Option Code → Array Value → Obj) (jmp : Code) (mkE : Array Value → Obj) (st : Nat → RnS)
    (hS : ∀ i, i ≤ tr.length → (stgTo k l tr i).2 ≠ 0 → ∀ m, i + 1 ≤ m → st m = st (i + 1))
    (hY : ∀ i, i ≤ tr.length → (∀ j, j < i → (stgTo k l tr j).2 = 0) →
      DoesR Tryz.prog L [.agg (kC (stgTo k l tr i).1.1 ++ stC (stgTo k l tr i).1.2), .c (.int .i64 (stgTo k l tr i).2)] (.lrec (mk .ready none) b csR :: runO (st i).1 (st i).2.1 (st i).2.2) (.c (.bool ((stgTo k l tr i).2 == 0))) (.lrec (if (stgTo k l tr i).2 = 0 then mk .ready none else mk .done (some jmp)) b csR :: runO (st (i + 1)).1 (st (i + 1)).2.1 (st (i + 1)).2.2))
    (hE : (if (stgTo k l tr tr.length).2 = 0 then mk .ready none else mk .done (some jmp)) = mkE) :
    DoesM Tryz.prog 59 [.fn (.yield L) [] [], .rptr (kC k), .rptr [amsV l], .rptr [intsV tr]] (.lrec (mk .ready none) b csR :: runO (st 0).1 (st 0).2.1 (st 0).2.2) (.tup []) (.lrec mkE b csR :: runO (st (tr.length + 1)).1 (st (tr.length + 1)).2.1 (st (tr.length + 1)).2.2) := by
  subst hE
  refine DoesM.mk (fun _ => false) 100 TT_ok Tryz.func59 rfl (by kernel_rfl) Tryz.ntmps59 rfl rfl rfl fun E hT hE hN hR => ?_
  have hm : E.P.follows .mixedOrders = true := by rw [hE]; kernel_rfl
  (repeat (first | refine XK.norm rfl rfl ?_ | refine XK.rgnA hT rfl rfl rfl ?_ | refine XK.rgnB hT hm rfl rfl rfl ?_))
  refine XK.loop (ι := Nat) (fun i => ST.of [(0, .fn (.yield L) [] []), (1, .rptr (kC k)), (2, .rptr [amsV l]), (3, .rptr [intsV tr]), (5, .ptr 105 0), (20, amsV l), (21, .c (.int .i64 l.length)), (22, .c (.int .i64 i))]
      ((0, .lrec (mk .ready none) b csR) :: (105, .cells 27 (kC (preTo k l i))) :: runN (st 0).1 (st 0).2.1 (st 0).2.2) 1000 112 (fun _ => false))
    (fun i => i ≤ l.length) (fun i => l.length - i) 0 (Nat.zero_le _) (Weak.of hN rfl rfl rfl (by (repeat' (first | exact rfl | exact AvIs.refl _ | exact trivial | exact fun _ _ => rfl | exact fun _ _ => ⟨rfl, AvIs.refl _⟩ | refine ⟨?_, ?_⟩))) (by (repeat' (first | exact rfl | exact AvIs.refl _ | exact trivial | exact fun _ _ => rfl | exact fun _ _ => ⟨rfl, AvIs.refl _⟩ | refine ⟨?_, ?_⟩)))) fun i hi => ?_
  (repeat (first | refine XK.norm rfl rfl ?_ | refine XK.rgnA hT rfl rfl rfl ?_ | refine XK.rgnB hT hm rfl rfl rfl ?_)); refine XK.cond rfl (fun hlt => ?_) (fun hlt => ?_) <;> (try simp at hlt)
  · have fx : l.getD (i : Int).toNat default = l.getD i default := rfl
    have hp := preTo_gd hk hl (i := i) (by omega)
    have ha := hl.at hlt
    have ap := apply_ok (preTo k l i) hp.1 (l.getD i default).patch ha.1.2.2.2 ha.2.1 ha.2.2
    have hn : preTo k l (i + 1) = if 0 < (l.getD i default).day then preTo k l i else if (applyR (preTo k l i) (l.getD i default).patch).2 = 0 then (applyR (preTo k l i) (l.getD i default).patch).1 else preTo k l i := rfl
    generalize applyR (preTo k l i) (l.getD i default).patch = r at *
    generalize preTo k l i = k1 at *
    (repeat (first | refine XK.norm rfl rfl ?_ | refine XK.rgnA hT rfl rfl rfl ?_ | refine XK.rgnB hT hm rfl rfl rfl ?_))
    rw [fx]
    generalize l.getD i default = a at *
    (repeat (first | refine XK.norm rfl rfl ?_ | refine XK.rgnA hT rfl rfl rfl ?_ | refine XK.rgnB hT hm rfl rfl rfl ?_)); refine XK.cond rfl (fun h1 => ?_) (fun h1 => ?_) <;> (try simp at h1)
    · rw [if_pos h1] at hn
      (repeat (first | refine XK.norm rfl rfl ?_ | refine XK.rgnA hT rfl rfl rfl ?_ | refine XK.rgnB hT hm rfl rfl rfl ?_))
      refine XK.inv ⟨i + 1, hlt, ?_, by omega⟩
      rw [hn]
      exact (Weak.of hN rfl rfl rfl (by (repeat' (first | exact rfl | exact AvIs.refl _ | exact trivial | exact fun _ _ => rfl | exact fun _ _ => ⟨rfl, AvIs.refl _⟩ | refine ⟨?_, ?_⟩))) (by (repeat' (first | exact rfl | exact AvIs.refl _ | exact trivial | exact fun _ _ => rfl | exact fun _ _ => ⟨rfl, AvIs.refl _⟩ | refine ⟨?_, ?_⟩))))
    rw [if_neg (by omega)] at hn
    (repeat (first | refine XK.norm rfl rfl ?_ | refine XK.rgnA hT rfl rfl rfl ?_ | refine XK.rgnB hT hm rfl rfl rfl ?_)); refine XK.region ?_; refine XL.goA hT rfl rfl rfl rfl ?_
    refine XL.callKA hE rfl rfl rfl rfl trivial rfl rfl (ap) ?_
    refine XL.goA hT rfl rfl rfl rfl ?_; refine XL.fin ?_; (repeat (first | refine XK.norm rfl rfl ?_ | refine XK.rgnA hT rfl rfl rfl ?_ | refine XK.rgnB hT hm rfl rfl rfl ?_))
    (repeat (first | refine XK.norm rfl rfl ?_ | refine XK.rgnA hT rfl rfl rfl ?_ | refine XK.rgnB hT hm rfl rfl rfl ?_)); refine XK.cond rfl (fun h2 => ?_) (fun h2 => ?_) <;> (try simp at h2)
    · rw [if_pos h2] at hn
      (repeat (first | refine XK.norm rfl rfl ?_ | refine XK.rgnA hT rfl rfl rfl ?_ | refine XK.rgnB hT hm rfl rfl rfl ?_))
      refine XK.inv ⟨i + 1, hlt, ?_, by omega⟩
      rw [hn]
      exact (Weak.of hN rfl rfl rfl (by (repeat' (first | exact rfl | exact AvIs.refl _ | exact trivial | exact fun _ _ => rfl | exact fun _ _ => ⟨rfl, AvIs.refl _⟩ | refine ⟨?_, ?_⟩))) (by (repeat' (first | exact rfl | exact AvIs.refl _ | exact trivial | exact fun _ _ => rfl | exact fun _ _ => ⟨rfl, AvIs.refl _⟩ | refine ⟨?_, ?_⟩))))
    · rw [if_neg h2] at hn
      (repeat (first | refine XK.norm rfl rfl ?_ | refine XK.rgnA hT rfl rfl rfl ?_ | refine XK.rgnB hT hm rfl rfl rfl ?_))
      refine XK.inv ⟨i + 1, hlt, ?_, by omega⟩
      rw [hn]
      exact (Weak.of hN rfl rfl rfl (by (repeat' (first | exact rfl | exact AvIs.refl _ | exact trivial | exact fun _ _ => rfl | exact fun _ _ => ⟨rfl, AvIs.refl _⟩ | refine ⟨?_, ?_⟩))) (by (repeat' (first | exact rfl | exact AvIs.refl _ | exact trivial | exact fun _ _ => rfl | exact fun _ _ => ⟨rfl, AvIs.refl _⟩ | refine ⟨?_, ?_⟩))))
  have hie : i = l.length := by omega
  subst hie
  clear hlt hi
  have hp := preTo_gd hk hl (Nat.le_refl _)
  have hs := startS_ok (preTo k l l.length) hp.1
  have h0 : stgTo k l tr 0 = ((preTo k l l.length, (startS (preTo k l l.length)).1), (startS (preTo k l l.length)).2) := rfl
  have hY0 := hY 0 (Nat.zero_le _) (fun j hj => absurd hj (Nat.not_lt_zero _))
  rw [h0] at hY0
  generalize hk1 : preTo k l l.length = k1 at *
  generalize hs1 : startS k1 = s1 at *
  (repeat (first | refine XK.norm rfl rfl ?_ | refine XK.rgnA hT rfl rfl rfl ?_ | refine XK.rgnB hT hm rfl rfl rfl ?_))
  (repeat (first | refine XK.norm rfl rfl ?_ | refine XK.rgnA hT rfl rfl rfl ?_ | refine XK.rgnB hT hm rfl rfl rfl ?_)); refine XK.region ?_; refine XL.goA hT rfl rfl rfl rfl ?_
  refine XL.callKA hE rfl rfl rfl rfl trivial rfl rfl (hs) ?_
  refine XL.goA hT rfl rfl rfl rfl ?_; refine XL.fin ?_; (repeat (first | refine XK.norm rfl rfl ?_ | refine XK.rgnA hT rfl rfl rfl ?_ | refine XK.rgnB hT hm rfl rfl rfl ?_))
  (repeat (first | refine XK.norm rfl rfl ?_ | refine XK.rgnA hT rfl rfl rfl ?_ | refine XK.rgnB hT hm rfl rfl rfl ?_))
  (repeat (first | refine XK.norm rfl rfl ?_ | refine XK.rgnA hT rfl rfl rfl ?_ | refine XK.rgnB hT hm rfl rfl rfl ?_)); refine XK.region ?_; refine XL.goA hT rfl rfl rfl rfl ?_
  ((refine XL.yieldM [0, 1, 2, 3, 4, 5, 6, 7] hE rfl rfl rfl rfl trivial (hY0) rfl ?_ rfl ?_ rfl rfl rfl ?_); (focus (repeat' (first | exact rfl | exact AvIs.refl _ | exact trivial | (intro i hi; rfl) | exact fun _ _ => ⟨rfl, AvIs.refl _⟩ | (intro i hi; rcases i with _ | _ | _ | _ | _ | _ | _ | i <;> first | rfl | exact absurd hi (by simp; done) | (simp at hi; omega)) | refine ⟨?_, ?_⟩))); (focus (repeat' (first | exact rfl | exact AvIs.refl _ | exact trivial | (intro i hi; rfl) | exact fun _ _ => ⟨rfl, AvIs.refl _⟩ | (intro i hi; rcases i with _ | _ | _ | _ | _ | _ | _ | i <;> first | rfl | exact absurd hi (by simp; done) | (simp at hi; omega)) | refine ⟨?_, ?_⟩))))
  refine XL.goA hT rfl rfl rfl rfl ?_; refine XL.fin ?_; (repeat (first | refine XK.norm rfl rfl ?_ | refine XK.rgnA hT rfl rfl rfl ?_ | refine XK.rgnB hT hm rfl rfl rfl ?_))
  by_cases hz : s1.2 = 0
  rotate_left
  · have hlast := hS 0 (Nat.zero_le _) (by rw [h0]; exact hz) (tr.length + 1) (by omega)
    have hstop := stg_stop (k := k) (l := l) (tr := tr) (i := 0) (by rw [h0]; exact hz) tr.length (Nat.zero_le _)
    rw [hlast, hstop, h0]
    (repeat (first | refine XK.norm rfl rfl ?_ | refine XK.rgnA hT rfl rfl rfl ?_ | refine XK.rgnB hT hm rfl rfl rfl ?_)); refine XK.cond rfl (fun h5 => ?_) (fun h5 => ?_)
    · (repeat (first | refine XK.norm rfl rfl ?_ | refine XK.rgnA hT rfl rfl rfl ?_ | refine XK.rgnB hT hm rfl rfl rfl ?_))
      (first | refine XK.outR [0, 1, 2, 3, 4, 5, 6, 7] hN rfl rfl rfl ?_ rfl rfl ?_ | refine XK.outRN [0, 1, 2, 3, 4, 5, 6, 7] hN rfl rfl rfl ?_ rfl rfl ?_)
      · (repeat' (first | exact rfl | exact AvIs.refl _ | exact trivial | exact fun _ _ => rfl | exact fun _ _ => ⟨rfl, AvIs.refl _⟩ | refine ⟨?_, ?_⟩))
      · (repeat' (first | exact rfl | exact AvIs.refl _ | exact trivial | exact fun _ _ => rfl | exact fun _ _ => ⟨rfl, AvIs.refl _⟩ | refine ⟨?_, ?_⟩))
    · exfalso; simp [hz] at h5
  (repeat (first | refine XK.norm rfl rfl ?_ | refine XK.rgnA hT rfl rfl rfl ?_ | refine XK.rgnB hT hm rfl rfl rfl ?_)); refine XK.cond rfl (fun h5 => ?_) (fun h5 => ?_)
  · exfalso; simp [hz] at h5
  clear h5
  (repeat (first | refine XK.norm rfl rfl ?_ | refine XK.rgnA hT rfl rfl rfl ?_ | refine XK.rgnB hT hm rfl rfl rfl ?_))
  have hrc : (if ((k1, s1.1), s1.2).2 = 0 then mk LoopState.ready none else mk LoopState.done (some jmp)) = mk .ready none := if_pos hz
  rw [hrc]
  refine XK.loop (ι := Nat) (fun i => ST.of [(0, .fn (.yield L) [] []), (1, .rptr (kC k)), (2, .rptr [amsV l]), (3, .rptr [intsV tr]), (5, .ptr 105 0), (10, .ptr 1122 0), (56, intsV tr), (57, .c (.int .i64 tr.length)), (58, .c (.int .i64 i))]
      ((0, .lrec (mk .ready none) b csR) :: (105, .cells 27 (kC (stgTo k l tr i).1.1)) :: (1122, .cells 38 (stC (stgTo k l tr i).1.2)) :: runN (st (i + 1)).1 (st (i + 1)).2.1 (st (i + 1)).2.2) 2000 112 (fun _ => false))
    (fun i => i ≤ tr.length ∧ ∀ j, j ≤ i → (stgTo k l tr j).2 = 0) (fun i => tr.length - i) 0 ⟨Nat.zero_le _, fun j hj => by rw [show j = 0 by omega, h0]; exact hz⟩ (by rw [h0]; exact (Weak.of hN rfl rfl rfl (by (repeat' (first | exact rfl | exact AvIs.refl _ | exact trivial | exact fun _ _ => rfl | exact fun _ _ => ⟨rfl, AvIs.refl _⟩ | refine ⟨?_, ?_⟩))) (by (repeat' (first | exact rfl | exact AvIs.refl _ | exact trivial | exact fun _ _ => rfl | exact fun _ _ => ⟨rfl, AvIs.refl _⟩ | refine ⟨?_, ?_⟩))))) fun i hi => ?_
  obtain ⟨hi, hz0⟩ := hi
  (repeat (first | refine XK.norm rfl rfl ?_ | refine XK.rgnA hT rfl rfl rfl ?_ | refine XK.rgnB hT hm rfl rfl rfl ?_)); refine XK.cond rfl (fun hlt => ?_) (fun hlt => ?_) <;> (try simp at hlt)
  · have fx : tr.getD (i : Int).toNat default = tr.getD i default := rfl
    have hg := stgTo_gd hk hl (hz0 i (Nat.le_refl _))
    have hYi := hY (i + 1) hlt (fun j hj => hz0 j (by omega))
    have hSi := hS (i + 1) hlt
    have hnx : stgTo k l tr (i + 1) = nextS l (stgTo k l tr i).1 (tr.getD i default) := by rw [stgTo, if_neg (by simpa using hz0 i (Nat.le_refl _))]
    have hstop := stg_stop (k := k) (l := l) (tr := tr) (i := i + 1)
    have hzn : (stgTo k l tr (i + 1)).2 = 0 → ∀ j, j ≤ i + 1 → (stgTo k l tr j).2 = 0 := fun h j hj => by
      by_cases e : j = i + 1
      · subst e; exact h
      · exact hz0 j (by omega)
    generalize hnxe : stgTo k l tr (i + 1) = nx at *
    generalize (stgTo k l tr i).1 = c at *
    have hs := stepS_ok c.1 hg.1 c.2 (tr.getD i default)
    have hsg := step_gd hg (t := tr.getD i default)
    have hne : nextS l c (tr.getD i default) = if (stepS c.1 c.2 (tr.getD i default)).2 = 0 ∧ (tr.getD i default) = -1 then (todTo l (c.1, (stepS c.1 c.2 (tr.getD i default)).1) l.length, 0) else ((c.1, (stepS c.1 c.2 (tr.getD i default)).1), (stepS c.1 c.2 (tr.getD i default)).2) := rfl
    rw [← hnx] at hne
    generalize stepS c.1 c.2 (tr.getD i default) = r at *
    (repeat (first | refine XK.norm rfl rfl ?_ | refine XK.rgnA hT rfl rfl rfl ?_ | refine XK.rgnB hT hm rfl rfl rfl ?_))
    rw [fx]
    generalize tr.getD i default = t at *
    (repeat (first | refine XK.norm rfl rfl ?_ | refine XK.rgnA hT rfl rfl rfl ?_ | refine XK.rgnB hT hm rfl rfl rfl ?_)); refine XK.region ?_; refine XL.goA hT rfl rfl rfl rfl ?_
    refine XL.callKA hE rfl rfl rfl rfl trivial rfl rfl (hs) ?_
    refine XL.goA hT rfl rfl rfl rfl ?_; refine XL.fin ?_; (repeat (first | refine XK.norm rfl rfl ?_ | refine XK.rgnA hT rfl rfl rfl ?_ | refine XK.rgnB hT hm rfl rfl rfl ?_))
    (repeat (first | refine XK.norm rfl rfl ?_ | refine XK.rgnA hT rfl rfl rfl ?_ | refine XK.rgnB hT hm rfl rfl rfl ?_)); refine XK.join (ST.of [(0, .fn (.yield L) [] []), (1, .rptr (kC k)), (2, .rptr [amsV l]), (3, .rptr [intsV tr]), (5, .ptr 105 0), (10, .ptr 1122 0), (11, .c (.int .i64 nx.2)), (56, intsV tr), (57, .c (.int .i64 tr.length)), (58, .c (.int .i64 i))]
        ((0, .lrec (mk .ready none) b csR) :: (105, .cells 27 (kC nx.1.1)) :: (1122, .cells 38 (stC nx.1.2)) :: runN (st (i + 1)).1 (st (i + 1)).2.1 (st (i + 1)).2.2) 5000 112 (fun _ => false)) rfl (fun h6 => ?_) (fun h6 => ?_) ?_
    · have h6 : r.2 = 0 ∧ t = -1 := by simpa using h6
      rw [if_pos h6] at hne
      have hr0 := h6.1
      have htd := fun j (h : j ≤ l.length) => todTo_gd hl (hsg hr0) h
      have htn : ∀ j, todTo l (c.1, r.1) (j + 1) = if (l.getD j default).day ≠ (todTo l (c.1, r.1) j).2.day then todTo l (c.1, r.1) j else if (migR (todTo l (c.1, r.1) j).1 (l.getD j default).patch (todTo l (c.1, r.1) j).2).2 = 0 then (migR (todTo l (c.1, r.1) j).1 (l.getD j default).patch (todTo l (c.1, r.1) j).2).1 else todTo l (c.1, r.1) j := fun _ => rfl
      have ht0 : todTo l (c.1, r.1) 0 = (c.1, r.1) := rfl
      clear hYi
      generalize htd' : todTo l (c.1, r.1) = td at *
      rw [hne]
      (repeat (first | refine XK.norm rfl rfl ?_ | refine XK.rgnA hT rfl rfl rfl ?_ | refine XK.rgnB hT hm rfl rfl rfl ?_))
      refine XK.loop (ι := Nat) (fun j => ST.of [(0, .fn (.yield L) [] []), (1, .rptr (kC k)), (2, .rptr [amsV l]), (3, .rptr [intsV tr]), (5, .ptr 105 0), (10, .ptr 1122 0), (11, .c (.int .i64 0)), (56, intsV tr), (57, .c (.int .i64 tr.length)), (58, .c (.int .i64 i)), (75, amsV l), (76, .c (.int .i64 l.length)), (77, .c (.int .i64 j))]
          ((0, .lrec (mk .ready none) b csR) :: (105, .cells 27 (kC (td j).1)) :: (1122, .cells 38 (stC (td j).2)) :: runN (st (i + 1)).1 (st (i + 1)).2.1 (st (i + 1)).2.2) 3000 112 (fun _ => false))
        (fun j => j ≤ l.length) (fun j => l.length - j) 0 (Nat.zero_le _) (by rw [ht0]; exact Weak.of hN rfl rfl rfl (by (repeat' (first | exact rfl | exact AvIs.refl _ | exact trivial | exact fun _ _ => rfl | exact fun _ _ => ⟨rfl, AvIs.refl _⟩ | exact cI (by omega) | exact (cI (by omega)) | refine ⟨?_, ?_⟩))) (by (repeat' (first | exact rfl | exact AvIs.refl _ | exact trivial | exact fun _ _ => rfl | exact fun _ _ => ⟨rfl, AvIs.refl _⟩ | refine ⟨?_, ?_⟩)))) fun j hj => ?_
      (repeat (first | refine XK.norm rfl rfl ?_ | refine XK.rgnA hT rfl rfl rfl ?_ | refine XK.rgnB hT hm rfl rfl rfl ?_)); refine XK.cond rfl (fun hjl => ?_) (fun hjl => ?_) <;> (try simp at hjl)
      · have fy : l.getD (j : Int).toNat default = l.getD j default := rfl
        have ha := hl.at hjl
        have hgd := htd j hj
        have hn := htn j
        have ap := migrated_ok (td j).1 hgd.1 (l.getD j default).patch ha.1.2.2.2 ha.2.1 ha.2.2 (td j).2 hgd.2
        generalize migR (td j).1 (l.getD j default).patch (td j).2 = q at *
        generalize td j = e1 at *
        (repeat (first | refine XK.norm rfl rfl ?_ | refine XK.rgnA hT rfl rfl rfl ?_ | refine XK.rgnB hT hm rfl rfl rfl ?_))
        rw [fy]
        generalize l.getD j default = a at *
        (repeat (first | refine XK.norm rfl rfl ?_ | refine XK.rgnA hT rfl rfl rfl ?_ | refine XK.rgnB hT hm rfl rfl rfl ?_)); refine XK.cond rfl (fun h7 => ?_) (fun h7 => ?_) <;> (try simp at h7)
        · rw [if_pos h7] at hn
          (repeat (first | refine XK.norm rfl rfl ?_ | refine XK.rgnA hT rfl rfl rfl ?_ | refine XK.rgnB hT hm rfl rfl rfl ?_))
          refine XK.inv ⟨j + 1, hjl, ?_, by omega⟩
          rw [hn]
          exact (Weak.of hN rfl rfl rfl (by (repeat' (first | exact rfl | exact AvIs.refl _ | exact trivial | exact fun _ _ => rfl | exact fun _ _ => ⟨rfl, AvIs.refl _⟩ | refine ⟨?_, ?_⟩))) (by (repeat' (first | exact rfl | exact AvIs.refl _ | exact trivial | exact fun _ _ => rfl | exact fun _ _ => ⟨rfl, AvIs.refl _⟩ | refine ⟨?_, ?_⟩))))
        rw [if_neg (fun h => h h7)] at hn
        (repeat (first | refine XK.norm rfl rfl ?_ | refine XK.rgnA hT rfl rfl rfl ?_ | refine XK.rgnB hT hm rfl rfl rfl ?_)); refine XK.region ?_; refine XL.goA hT rfl rfl rfl rfl ?_
        refine XL.callKA hE rfl rfl rfl rfl trivial rfl rfl (ap) ?_
        refine XL.goA hT rfl rfl rfl rfl ?_; refine XL.fin ?_; (repeat (first | refine XK.norm rfl rfl ?_ | refine XK.rgnA hT rfl rfl rfl ?_ | refine XK.rgnB hT hm rfl rfl rfl ?_))
        (repeat (first | refine XK.norm rfl rfl ?_ | refine XK.rgnA hT rfl rfl rfl ?_ | refine XK.rgnB hT hm rfl rfl rfl ?_)); refine XK.cond rfl (fun h8 => ?_) (fun h8 => ?_) <;> (try simp at h8)
        · rw [if_pos h8] at hn
          (repeat (first | refine XK.norm rfl rfl ?_ | refine XK.rgnA hT rfl rfl rfl ?_ | refine XK.rgnB hT hm rfl rfl rfl ?_))
          refine XK.inv ⟨j + 1, hjl, ?_, by omega⟩
          rw [hn]
          exact (Weak.of hN rfl rfl rfl (by (repeat' (first | exact rfl | exact AvIs.refl _ | exact trivial | exact fun _ _ => rfl | exact fun _ _ => ⟨rfl, AvIs.refl _⟩ | refine ⟨?_, ?_⟩))) (by (repeat' (first | exact rfl | exact AvIs.refl _ | exact trivial | exact fun _ _ => rfl | exact fun _ _ => ⟨rfl, AvIs.refl _⟩ | refine ⟨?_, ?_⟩))))
        · rw [if_neg h8] at hn
          (repeat (first | refine XK.norm rfl rfl ?_ | refine XK.rgnA hT rfl rfl rfl ?_ | refine XK.rgnB hT hm rfl rfl rfl ?_))
          refine XK.inv ⟨j + 1, hjl, ?_, by omega⟩
          rw [hn]
          exact (Weak.of hN rfl rfl rfl (by (repeat' (first | exact rfl | exact AvIs.refl _ | exact trivial | exact fun _ _ => rfl | exact fun _ _ => ⟨rfl, AvIs.refl _⟩ | refine ⟨?_, ?_⟩))) (by (repeat' (first | exact rfl | exact AvIs.refl _ | exact trivial | exact fun _ _ => rfl | exact fun _ _ => ⟨rfl, AvIs.refl _⟩ | refine ⟨?_, ?_⟩))))
      · have hje : j = l.length := by omega
        subst hje
        (repeat (first | refine XK.norm rfl rfl ?_ | refine XK.rgnA hT rfl rfl rfl ?_ | refine XK.rgnB hT hm rfl rfl rfl ?_))
        exact XK.inv (Weak.of hN rfl rfl rfl (by (repeat' (first | exact rfl | exact AvIs.refl _ | exact trivial | exact fun _ _ => rfl | exact fun _ _ => ⟨rfl, AvIs.refl _⟩ | refine ⟨?_, ?_⟩))) (by (repeat' (first | exact rfl | exact AvIs.refl _ | exact trivial | exact fun _ _ => rfl | exact fun _ _ => ⟨rfl, AvIs.refl _⟩ | refine ⟨?_, ?_⟩))))
    · have h6 : ¬ (r.2 = 0 ∧ t = -1) := by simpa using h6
      rw [if_neg h6] at hne
      rw [hne]
      (repeat (first | refine XK.norm rfl rfl ?_ | refine XK.rgnA hT rfl rfl rfl ?_ | refine XK.rgnB hT hm rfl rfl rfl ?_))
      exact XK.inv (Weak.of hN rfl rfl rfl (by (repeat' (first | exact rfl | exact AvIs.refl _ | exact trivial | exact fun _ _ => rfl | exact fun _ _ => ⟨rfl, AvIs.refl _⟩ | refine ⟨?_, ?_⟩))) (by (repeat' (first | exact rfl | exact AvIs.refl _ | exact trivial | exact fun _ _ => rfl | exact fun _ _ => ⟨rfl, AvIs.refl _⟩ | refine ⟨?_, ?_⟩))))
    clear hne hnx
    (repeat (first | refine XK.norm rfl rfl ?_ | refine XK.rgnA hT rfl rfl rfl ?_ | refine XK.rgnB hT hm rfl rfl rfl ?_)); refine XK.region ?_; refine XL.goA hT rfl rfl rfl rfl ?_
    ((refine XL.yieldM [0, 1, 2, 3, 4, 5, 6, 7] hE rfl rfl rfl rfl trivial (hYi) rfl ?_ rfl ?_ rfl rfl rfl ?_); (focus (repeat' (first | exact rfl | exact AvIs.refl _ | exact trivial | (intro i hi; rfl) | exact fun _ _ => ⟨rfl, AvIs.refl _⟩ | (intro i hi; rcases i with _ | _ | _ | _ | _ | _ | _ | i <;> first | rfl | exact absurd hi (by simp; done) | (simp at hi; omega)) | refine ⟨?_, ?_⟩))); (focus (repeat' (first | exact rfl | exact AvIs.refl _ | exact trivial | (intro i hi; rfl) | exact fun _ _ => ⟨rfl, AvIs.refl _⟩ | (intro i hi; rcases i with _ | _ | _ | _ | _ | _ | _ | i <;> first | rfl | exact absurd hi (by simp; done) | (simp at hi; omega)) | refine ⟨?_, ?_⟩))))
    refine XL.goA hT rfl rfl rfl rfl ?_; refine XL.fin ?_; (repeat (first | refine XK.norm rfl rfl ?_ | refine XK.rgnA hT rfl rfl rfl ?_ | refine XK.rgnB hT hm rfl rfl rfl ?_))
    by_cases hz2 : nx.2 = 0
    rotate_left
    · have hlast := hSi hz2 (tr.length + 1) (by omega)
      have hstp := hstop hz2 tr.length (by omega)
      rw [hlast, hstp]
      (repeat (first | refine XK.norm rfl rfl ?_ | refine XK.rgnA hT rfl rfl rfl ?_ | refine XK.rgnB hT hm rfl rfl rfl ?_)); refine XK.cond rfl (fun h9 => ?_) (fun h9 => ?_)
      · (repeat (first | refine XK.norm rfl rfl ?_ | refine XK.rgnA hT rfl rfl rfl ?_ | refine XK.rgnB hT hm rfl rfl rfl ?_))
        (first | refine XK.outR [0, 1, 2, 3, 4, 5, 6, 7] hN rfl rfl rfl ?_ rfl rfl ?_ | refine XK.outRN [0, 1, 2, 3, 4, 5, 6, 7] hN rfl rfl rfl ?_ rfl rfl ?_)
        · (repeat' (first | exact rfl | exact AvIs.refl _ | exact trivial | exact fun _ _ => rfl | exact fun _ _ => ⟨rfl, AvIs.refl _⟩ | refine ⟨?_, ?_⟩))
        · (repeat' (first | exact rfl | exact AvIs.refl _ | exact trivial | exact fun _ _ => rfl | exact fun _ _ => ⟨rfl, AvIs.refl _⟩ | refine ⟨?_, ?_⟩))
      · exfalso; simp [hz2] at h9
    (repeat (first | refine XK.norm rfl rfl ?_ | refine XK.rgnA hT rfl rfl rfl ?_ | refine XK.rgnB hT hm rfl rfl rfl ?_)); refine XK.cond rfl (fun h9 => ?_) (fun h9 => ?_)
    · exfalso; simp [hz2] at h9
    clear h9
    rw [if_pos hz2]
    (repeat (first | refine XK.norm rfl rfl ?_ | refine XK.rgnA hT rfl rfl rfl ?_ | refine XK.rgnB hT hm rfl rfl rfl ?_))
    refine XK.inv ⟨i + 1, ⟨hlt, hzn hz2⟩, ?_, by omega⟩
    rw [hnxe]
    exact (Weak.of hN rfl rfl rfl (by (repeat' (first | exact rfl | exact AvIs.refl _ | exact trivial | exact fun _ _ => rfl | exact fun _ _ => ⟨rfl, AvIs.refl _⟩ | refine ⟨?_, ?_⟩))) (by (repeat' (first | exact rfl | exact AvIs.refl _ | exact trivial | exact fun _ _ => rfl | exact fun _ _ => ⟨rfl, AvIs.refl _⟩ | refine ⟨?_, ?_⟩))))
  · have hie : i = tr.length := by omega
    subst hie
    rw [if_pos (hz0 _ (Nat.le_refl _))]
    (repeat (first | refine XK.norm rfl rfl ?_ | refine XK.rgnA hT rfl rfl rfl ?_ | refine XK.rgnB hT hm rfl rfl rfl ?_))
    (first | refine XK.outR [0, 1, 2, 3, 4, 5, 6, 7] hN rfl rfl rfl ?_ rfl rfl ?_ | refine XK.outRN [0, 1, 2, 3, 4, 5, 6, 7] hN rfl rfl rfl ?_ rfl rfl ?_)
    · (repeat' (first | exact rfl | exact AvIs.refl _ | exact trivial | exact fun _ _ => rfl | exact fun _ _ => ⟨rfl, AvIs.refl _⟩ | refine ⟨?_, ?_⟩))
    · (repeat' (first | exact rfl | exact AvIs.refl _ | exact trivial | exact fun _ _ => rfl | exact fun _ _ => ⟨rfl, AvIs.refl _⟩ | refine ⟨?_, ?_⟩))
end Go.Proofs.YtofdehlikigonaaGreat
end
section
/- Contracts: package migrate: the iterator over stages. -/
namespace Go.Proofs.YtofdehlikigonaaGreat
open Go.Eng
set_option maxRecDepth 10000
set_option linter.unusedSimpArgs false
set_option linter.unusedVariables false
theorem stagesC_ok (k : K) (l : List Am) (tr : List Int) : Does Tryz.prog 39 [kV k, amsV l, intsV tr] (.fn (.func 59) [] [.rptr (kC k), .rptr [amsV l], .rptr [intsV tr]]) := by
  refine Does.mk (fun _ => false) TT_ok Tryz.func39 rfl (by kernel_rfl) Tryz.ntmps39 rfl rfl fun E hT hE hN hR => ?_
  have hm : E.P.follows .mixedOrders = true := by rw [hE]; kernel_rfl
  (repeat (first | refine XK.norm rfl rfl ?_ | refine XK.rgnA hT rfl rfl rfl ?_ | refine XK.rgnB hT hm rfl rfl rfl ?_))
  refine XK.weak (Weak.trans (Weak.frozenC (k := 3) hN rfl rfl rfl) (Weak.trans (Weak.frozenC (k := 4) hN rfl rfl rfl) (Weak.frozenC (k := 5) hN rfl rfl rfl))) ?_
  (first | refine XK.out rfl rfl rfl ?_ | refine XK.outN rfl rfl rfl ?_)
  rfl
/-- The amendments that a run considers: those that are known, in the order. -/
def consA (l : List Am) (known : Int) (i : Nat) : List Am := ((seqA l).take i).filter (fun a => decide (a.known ≤ known))
noncomputable def runR (k : K) (l : List Am) (known : Int) (tr : List Int) : (List K × List St) × Int :=
  if (startS k).2 ≠ 0 then (([], []), 1) else if 60 < l.length ∨ 4000 < tr.length then (([], []), 3)
  else if (stgTo k (consA l known l.length) tr tr.length).2 ≠ 0 then (([], []), (stgTo k (consA l known l.length) tr tr.length).2)
  else (((List.range (tr.length + 1)).map (fun i => (stgTo k (consA l known l.length) tr i).1.1), (List.range (tr.length + 1)).map (fun i => (stgTo k (consA l known l.length) tr i).1.2)), 0)
end Go.Proofs.YtofdehlikigonaaGreat
end
