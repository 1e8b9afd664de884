import Derived.Test.YtlcfoelfcnhenaaGreatDoorZz14
import Derived.Test.YtlcfoelfcnhenaaGreatDoorZz21
set_option linter.unusedSimpArgs false
set_option linter.unusedVariables false
set_option maxRecDepth 10000
namespace Go.Proofs.YtlcfoelfcnhenaaGreatDoor
section
open Go.Eng
def mRow (n : Nat) (mk : Nat → Mk) : Ob := .vec 106 5 0 n (fun i => mkC (mk i))
def stO (day : Int) (hs : List Int) (us : List Bool) (q : Nat) : Ob := .cells 45 [.c (.int .i64 day), intsV hs, boolsV us, .vec q 0]
theorem mholds_ok (n : Nat) (mk : Nat → Mk) (c : Cnd) (hc : 0 ≤ c.clause ∧ c.clause < n) : DoesM Tryz.prog 155 [.vec 0 0, .agg (cndC c)] [mRow n mk] (.c (.bool (condHB mk c))) [mRow n mk] := by
  obtain ⟨h1, h2⟩ := hc
  refine DoesM.mk (fun _ => false) 100 TT_ok Tryz.func155 rfl (by kernel_rfl) Tryz.ntmps155 rfl rfl rfl fun E hT hE hN hR => ?_
  have hm := mixO hE
  (repeat (first | refine XK.n ?_ | refine XK.a ?_ | refine XK.b ?_)); refine XK.cond rfl (fun c1 => ?_) (fun c1 => ?_) <;> (try simp at c1)
  · (repeat (first | refine XK.n ?_ | refine XK.a ?_ | refine XK.b ?_))
    (first | refine XK.outR [0] hN rfl rfl rfl ?_ rfl rfl ?_ | refine XK.outRN [0] hN rfl rfl rfl ?_ rfl rfl ?_)
    · exact frI
    · rw [condHB, if_pos c1]; exact AvIs.refl _
  · (repeat (first | refine XK.n ?_ | refine XK.a ?_ | refine XK.b ?_)); refine XK.cond rfl (fun c2 => ?_) (fun c2 => ?_) <;> (try simp at c2)
    · (repeat (first | refine XK.n ?_ | refine XK.a ?_ | refine XK.b ?_))
      (first | refine XK.outR [0] hN rfl rfl rfl ?_ rfl rfl ?_ | refine XK.outRN [0] hN rfl rfl rfl ?_ rfl rfl ?_)
      · exact frI
      · rw [condHB, if_neg c1, if_pos c2]; exact AvIs.refl _
    · (repeat (first | refine XK.n ?_ | refine XK.a ?_ | refine XK.b ?_)); refine XK.cond rfl (fun c3 => ?_) (fun c3 => ?_) <;> (try simp at c3)
      · (repeat (first | refine XK.n ?_ | refine XK.a ?_ | refine XK.b ?_))
        (first | refine XK.outR [0] hN rfl rfl rfl ?_ rfl rfl ?_ | refine XK.outRN [0] hN rfl rfl rfl ?_ rfl rfl ?_)
        · exact frI
        · rw [condHB, if_neg c1, if_neg c2, if_pos c3]; exact AvIs.refl _
      · (repeat (first | refine XK.n ?_ | refine XK.a ?_ | refine XK.b ?_)); refine XK.cond rfl (fun c4 => ?_) (fun c4 => ?_) <;> (try simp at c4)
        · (repeat (first | refine XK.n ?_ | refine XK.a ?_ | refine XK.b ?_))
          (first | refine XK.outR [0] hN rfl rfl rfl ?_ rfl rfl ?_ | refine XK.outRN [0] hN rfl rfl rfl ?_ rfl rfl ?_)
          · exact frI
          · rw [condHB, if_neg c1, if_neg c2, if_neg c3, if_pos c4]; exact AvIs.refl _
        · (repeat (first | refine XK.n ?_ | refine XK.a ?_ | refine XK.b ?_))
          (first | refine XK.outR [0] hN rfl rfl rfl ?_ rfl rfl ?_ | refine XK.outRN [0] hN rfl rfl rfl ?_ rfl rfl ?_)
          · exact frI
          · rw [condHB, if_neg c1, if_neg c2, if_neg c3, if_neg c4]; exact AvIs.refl _
theorem waits_ok (day : Int) (hs : List Int) (us : List Bool) (n : Nat) (mk : Nat → Mk) (c : Cnd) (hc : 0 ≤ c.clause ∧ c.clause < n) : DoesM Tryz.prog 154 [.agg (cndC c), .ptr 0 0] [stO day hs us 1, mRow n mk] (.c (.bool (!condHB mk c))) [stO day hs us 1, mRow n mk] := by
  have hh := mholds_ok n mk c hc
  refine DoesM.mk (fun _ => false) 100 TT_ok Tryz.func154 rfl (by kernel_rfl) Tryz.ntmps154 rfl rfl rfl fun E hT hE hN hR => ?_
  have hm := mixO hE
  (repeat (first | refine XK.n ?_ | refine XK.a ?_ | refine XK.b ?_)); refine XK.region ?_; refine XL.g ?_
  refine XL.callMA [1] hE rfl rfl rfl rfl trivial (hh) rfl rfl rfl rfl rfl ?_
  refine XL.g ?_; refine XL.fin ?_; (repeat (first | refine XK.n ?_ | refine XK.a ?_ | refine XK.b ?_))
  (first | refine XK.outR [0, 1] hN rfl rfl rfl ?_ rfl rfl ?_ | refine XK.outRN [0, 1] hN rfl rfl rfl ?_ rfl rfl ?_)
  · exact frI
  · exact frI
def waitAt (mk : Nat → Mk) (l : List Cnd) : Int := match l.findIdx? (fun c => !condHB mk c) with | some i => i | none => -1
theorem waitAt_yes {mk : Nat → Mk} {l : List Cnd} {i : Nat} (hi : i < l.length) (hj : ∀ j, j < i → condHB mk (l.getD j default) = true) (h : condHB mk (l.getD i default) = false) : waitAt mk l = i := by
  have : l.findIdx? (fun c => !condHB mk c) = some i := by
    rw [List.findIdx?_eq_some_iff_getElem]
    refine ⟨hi, ?_, fun j hj' => ?_⟩
    · have e : l.getD i default = l[i] := by simp [List.getD, hi]
      rw [← e, h]; rfl
    · have hjl : j < l.length := by omega
      have e : l.getD j default = l[j] := by simp [List.getD, hjl]
      rw [← e, hj j hj']; simp
  rw [waitAt, this]
theorem waitAt_no {mk : Nat → Mk} {l : List Cnd} (hj : ∀ j, j < l.length → condHB mk (l.getD j default) = true) : waitAt mk l = -1 := by
  have : l.findIdx? (fun c => !condHB mk c) = none := by
    rw [List.findIdx?_eq_none_iff]
    intro x hx
    obtain ⟨j, hjl, rfl⟩ := List.getElem_of_mem hx
    have e : l.getD j default = l[j] := by simp [List.getD, hjl]
    rw [← e, hj j hjl]; rfl
  rw [waitAt, this]
theorem index_ok (day : Int) (hs : List Int) (us : List Bool) (n : Nat) (mk : Nat → Mk) (l : List Cnd) (hl : l.length ≤ 1000000) (hc : ∀ i, i < l.length → 0 ≤ (l.getD i default).clause ∧ (l.getD i default).clause < n) :
    DoesM Tryz.prog 176 [cndsV l, .fn (.func 154) [] [.ptr 0 0]] [stO day hs us 1, mRow n mk] (.c (.int .i64 (waitAt mk l))) [stO day hs us 1, mRow n mk] := by
  refine DoesM.mk (fun _ => false) 100 TT_ok Tryz.func176 rfl (by kernel_rfl) Tryz.ntmps176 rfl rfl rfl fun E hT hE hN hR => ?_
  have hm := mixO hE
  (repeat (first | refine XK.n ?_ | refine XK.a ?_ | refine XK.b ?_))
  refine XK.loop (ι := Nat) (fun i => ST.of [(0, cndsV l), (1, .fn (.func 154) [] [.ptr 0 0]), (7, .c (.int .i64 l.length)), (8, .c (.int .i64 i))] [(0, stO day hs us 1), (1, mRow n mk)] 1000 19 (fun _ => false))
    (fun i => i ≤ l.length ∧ ∀ j, j < i → condHB mk (l.getD j default) = true) (fun i => l.length - i) 0 ⟨Nat.zero_le _, fun j hj => absurd hj (Nat.not_lt_zero _)⟩
    (Weak.of hN rfl rfl rfl frI frI) fun i hi => ?_
  obtain ⟨hi, hj⟩ := hi
  (repeat (first | refine XK.n ?_ | refine XK.a ?_ | refine XK.b ?_)); refine XK.cond rfl (fun hlt => ?_) (fun hlt => ?_) <;> (try simp at hlt)
  · have fx : l.getD (i : Int).toNat default = l.getD i default := rfl
    have hw := waits_ok day hs us n mk (l.getD i default) (hc i hlt)
    (repeat (first | refine XK.n ?_ | refine XK.a ?_ | refine XK.b ?_))
    (repeat (first | refine XK.n ?_ | refine XK.a ?_ | refine XK.b ?_)); refine XK.region ?_; refine XL.g ?_
    rw [fx]
    refine XL.callMA [0, 1] hE rfl rfl rfl rfl trivial (hw) rfl rfl rfl rfl rfl ?_
    refine XL.g ?_; refine XL.fin ?_; (repeat (first | refine XK.n ?_ | refine XK.a ?_ | refine XK.b ?_))
    have hwy := waitAt_yes (mk := mk) hlt hj
    have hcn : ∀ b, condHB mk (l.getD i default) = b → ∀ j, b = true → j < i + 1 → condHB mk (l.getD j default) = true := fun b hb j e hj' => by
      by_cases e' : j = i
      · subst e'; rw [hb, e]
      · exact hj j (by omega)
    generalize condHB mk (l.getD i default) = b at *
    (repeat (first | refine XK.n ?_ | refine XK.a ?_ | refine XK.b ?_)); refine XK.cond rfl (fun h1 => ?_) (fun h1 => ?_)
    · have h1 : b = false := by simpa using h1
      (repeat (first | refine XK.n ?_ | refine XK.a ?_ | refine XK.b ?_))
      (first | refine XK.outR [0, 1] hN rfl rfl rfl ?_ rfl rfl ?_ | refine XK.outRN [0, 1] hN rfl rfl rfl ?_ rfl rfl ?_)
      · exact frI
      · rw [hwy h1]; exact AvIs.refl _
    · have h1 : b = true := by simpa using h1
      (repeat (first | refine XK.n ?_ | refine XK.a ?_ | refine XK.b ?_))
      exact XK.inv ⟨i + 1, ⟨hlt, fun j hj' => hcn b rfl j h1 hj'⟩, (Weak.of hN rfl rfl rfl frI frI), by omega⟩
  · (repeat (first | refine XK.n ?_ | refine XK.a ?_ | refine XK.b ?_))
    (first | refine XK.outR [0, 1] hN rfl rfl rfl ?_ rfl rfl ?_ | refine XK.outRN [0, 1] hN rfl rfl rfl ?_ rfl rfl ?_)
    · exact frI
    · rw [waitAt_no fun j hj' => hj j (by omega)]; exact AvIs.refl _
theorem waitAt_neg (mk : Nat → Mk) (l : List Cnd) : decide (0 ≤ waitAt mk l) = !(l.all (condHB mk)) := by
  by_cases h : l.all (condHB mk) = true
  · rw [waitAt_no fun j hj => List.all_eq_true.1 h _ (getD_memW hj), h]
    rfl
  · unfold waitAt
    cases hf : l.findIdx? (fun c => !condHB mk c) with
    | some i =>
      have : l.all (condHB mk) = false := by simpa using h
      rw [this]
      simp only [decide_eq_true_eq, Bool.not_false]
      omega
    | none =>
      rw [List.findIdx?_eq_none_iff] at hf
      exact absurd (List.all_eq_true.2 fun x hx => by have := hf x hx; simpa using this) h
theorem contains_ok (day : Int) (hs : List Int) (us : List Bool) (n : Nat) (mk : Nat → Mk) (l : List Cnd) (hl : l.length ≤ 1000000) (hc : ∀ i, i < l.length → 0 ≤ (l.getD i default).clause ∧ (l.getD i default).clause < n) :
    DoesM Tryz.prog 156 [cndsV l, .fn (.func 154) [] [.ptr 0 0]] [stO day hs us 1, mRow n mk] (.c (.bool (!(l.all (condHB mk))))) [stO day hs us 1, mRow n mk] := by
  have hi := index_ok day hs us n mk l hl hc
  have hn := waitAt_neg mk l
  generalize waitAt mk l = z at *
  refine DoesM.mk (fun _ => false) 100 TT_ok Tryz.func156 rfl (by kernel_rfl) Tryz.ntmps156 rfl rfl rfl fun E hT hE hN hR => ?_
  have hm := mixO hE
  (repeat (first | refine XK.n ?_ | refine XK.a ?_ | refine XK.b ?_)); refine XK.region ?_; refine XL.g ?_
  refine XL.callMA [0, 1] hE rfl rfl rfl rfl trivial (hi) rfl rfl rfl rfl rfl ?_
  refine XL.g ?_; refine XL.fin ?_; (repeat (first | refine XK.n ?_ | refine XK.a ?_ | refine XK.b ?_))
  (first | refine XK.outR [0, 1] hN rfl rfl rfl ?_ rfl rfl ?_ | refine XK.outRN [0, 1] hN rfl rfl rfl ?_ rfl rfl ?_)
  · exact frI
  · rw [← hn]; exact AvIs.refl _
end
section
open Go.Eng
theorem mstart_ok (k : K) (hk : KFacts k) (day : Int) (hs : List Int) (us : List Bool) (hh : hs.length = k.holders.length) (w : Wk) (hw : ∀ j, w.hold j = hs.getD j default) :
    DoesM Tryz.prog 111 [kV k, .agg [.c (.int .i64 day), intsV hs, boolsV us, .vec 0 0]] [mRow k.clauses.length w.mark] (.tup []) [mRow k.clauses.length (startW k w).mark] := by
  refine DoesM.mk (fun _ => false) 100 TT_ok Tryz.func111 rfl (by kernel_rfl) Tryz.ntmps111 rfl rfl rfl fun E hT hE hN hR => ?_
  have hm := mixO hE
  have hnc := hk.nc
  (repeat (first | refine XK.n ?_ | refine XK.a ?_ | refine XK.b ?_))
  refine XK.loop (ι := Nat × Wk × Bool) (fun q => ST.of [(2, .ptr 102 0), (3, .ptr 103 0), (4, .c (.bool q.2.2))] [(0, mRow k.clauses.length q.2.1.mark), (102, .cells 27 (kC k)), (103, stO day hs us 0)] 1000 57 (fun _ => false))
    (fun q => (∀ j, q.2.1.hold j = hs.getD j default) ∧ (q.2.2 = true → startN k q.1 q.2.1 = startW k w ∧ idleN k q.2.1.mark < q.1) ∧ (q.2.2 = false → q.2.1 = startW k w)) (fun q => if q.2.2 = true then q.1 + 1 else 0) (idleN k w.mark + 1, w, true)
    ⟨hw, fun _ => ⟨rfl, Nat.lt_succ_self _⟩, fun h => nomatch h⟩
    (Weak.of hN rfl rfl rfl frI frI) fun q hq => ?_
  obtain ⟨f, w1, b⟩ := q
  obtain ⟨g0, g1, g2⟩ := hq
  dsimp only at g0 g1 g2
  dsimp only
  (repeat (first | refine XK.n ?_ | refine XK.a ?_ | refine XK.b ?_)); refine XK.cond rfl (fun hb => ?_) (fun hb => ?_)
  · have hb : b = true := hb
    subst hb
    obtain ⟨g1, g3⟩ := g1 rfl
    clear g2
    obtain ⟨f, rfl⟩ : ∃ f', f = f' + 1 := ⟨f - 1, by omega⟩
    (repeat (first | refine XK.n ?_ | refine XK.a ?_ | refine XK.b ?_))
    refine XK.loop (ι := Nat) (fun i => ST.of [(2, .ptr 102 0), (3, .ptr 103 0), (4, .c (.bool (passTo k w1 i).2)), (10, clsV k.clauses), (11, .c (.int .i64 k.clauses.length)), (12, .c (.int .i64 i))] [(0, mRow k.clauses.length (passTo k w1 i).1.mark), (102, .cells 27 (kC k)), (103, stO day hs us 0)] 2000 57 (fun _ => false))
      (fun i => i ≤ k.clauses.length) (fun i => k.clauses.length - i) 0 (Nat.zero_le _)
      (Weak.of hN rfl rfl rfl frI frI) fun i hi => ?_
    (repeat (first | refine XK.n ?_ | refine XK.a ?_ | refine XK.b ?_)); refine XK.cond rfl (fun hlt => ?_) (fun hlt => ?_) <;> (try simp at hlt)
    · have fc : k.clauses.getD (i : Int).toNat default = clAt k i := rfl
      have hkf := kindW (hk.clB hlt).2.2.1
      have hp : passTo k w1 (i + 1) = if rdyB k (passTo k w1 i).1.mark i = true then ((passTo k w1 i).1.upM i (liveM k (passTo k w1 i).1.hold i), true) else passTo k w1 i := rfl
      have hph : ∀ j, (passTo k w1 i).1.hold j = hs.getD j default := fun j => by rw [pass_hold hi]; exact g0 j
      generalize passTo k w1 i = p at *
      obtain ⟨w2, b2⟩ := p
      dsimp only at hp hph
      dsimp only
      (repeat (first | refine XK.n ?_ | refine XK.a ?_ | refine XK.b ?_))
      have hcb := hk.clB hlt
      have hct := contains_ok day hs us k.clauses.length w2.mark (clAt k i).start (Nat.le_trans hcb.2.2.2.1 (by decide)) (fun j hj => by
        have := hcb.2.2.2.2.1 _ (getD_memW hj)
        simp only [condB, Bool.not_eq_true', Bool.or_eq_false_iff, decide_eq_false_iff_not] at this
        omega)
      have hrd : rdyB k w2.mark i = if ((w2.mark i).status != 0 || (clAt k i).waived) = true then false else (clAt k i).start.all (condHB w2.mark) := rfl
      generalize (clAt k i).start.all (condHB w2.mark) = al at *
      refine XK.weak (st' := ST.of [(2, .ptr 102 0), (3, .ptr 103 0), (4, .c (.bool b2)), (5, .c (.int .i64 i)), (6, .ptr 2063 0), (7, .fn (.func 154) [] [.ptr 103 0]), (10, clsV k.clauses), (11, .c (.int .i64 k.clauses.length)), (12, .c (.int .i64 i))]
        [(0, mRow k.clauses.length w2.mark), (102, .cells 27 (kC k)), (103, stO day hs us 0), (2063, .cells 56 (clC (clAt k i)))] 3000 57 (fun _ => false)) (Weak.of hN rfl rfl rfl frI frI) ?_
      clear hcb
      (repeat (first | refine XK.n ?_ | refine XK.a ?_ | refine XK.b ?_)); refine XK.region ?_; refine XL.g ?_
      refine XL.callMG [103, 0] (.c (.bool false)) hE rfl rfl rfl rfl rfl rfl (fun hgd => ?_) rfl (fun hgd => ?_) (fun hgd => hct) rfl ?_ rfl (fun hgd => ?_) rfl rfl rfl (fun hgd => ?_)
      · have hX : ((w2.mark i).status != 0 || (clAt k i).waived) = true := by
          have : (!((w2.mark (i : Int).toNat).status != 0 || (clAt k i).waived)) = false := hgd
          rwa [Bool.not_eq_false'] at this
        rw [if_pos hX] at hrd
        rw [if_neg (by rw [hrd]; exact Bool.false_ne_true)] at hp
        refine XL.g ?_; refine XL.fin ?_; (repeat (first | refine XK.n ?_ | refine XK.a ?_ | refine XK.b ?_))
        (repeat (first | refine XK.n ?_ | refine XK.a ?_ | refine XK.b ?_)); refine XK.cond rfl (fun h1 => ?_) (fun h1 => ?_)
        · (repeat (first | refine XK.n ?_ | refine XK.a ?_ | refine XK.b ?_))
          refine XK.inv ⟨i + 1, hlt, ?_, by omega⟩
          rw [hp]
          exact (Weak.of hN rfl rfl rfl frI frI)
        · exfalso
          rw [show (i : Int).toNat = i from rfl, hX] at h1
          simp at h1
      · simp only [AllP, impG, hgd]; simp
      · exact frI
      · exact frI
      · have hX : ((w2.mark i).status != 0 || (clAt k i).waived) = false := by
          have : (!((w2.mark (i : Int).toNat).status != 0 || (clAt k i).waived)) = true := hgd
          rwa [Bool.not_eq_true'] at this
        rw [if_neg (by rw [hX]; exact Bool.false_ne_true)] at hrd
        rw [hrd] at hp
        refine XL.g ?_; refine XL.fin ?_; (repeat (first | refine XK.n ?_ | refine XK.a ?_ | refine XK.b ?_))
        (repeat (first | refine XK.n ?_ | refine XK.a ?_ | refine XK.b ?_)); refine XK.cond rfl (fun h1 => ?_) (fun h1 => ?_)
        · have h1 : al = false := by
            rw [show (i : Int).toNat = i from rfl, hX] at h1
            simpa using h1
          rw [if_neg (by rw [h1]; exact Bool.false_ne_true)] at hp
          (repeat (first | refine XK.n ?_ | refine XK.a ?_ | refine XK.b ?_))
          refine XK.inv ⟨i + 1, hlt, ?_, by omega⟩
          rw [hp]
          exact (Weak.of hN rfl rfl rfl frI frI)
        · have h1 : al = true := by
            rw [show (i : Int).toNat = i from rfl, hX] at h1
            simpa using h1
          rw [if_pos h1] at hp
          (repeat (first | refine XK.n ?_ | refine XK.a ?_ | refine XK.b ?_)); refine XK.cond rfl (fun h3 => ?_) (fun h3 => ?_) <;> (try simp at h3)
          · have hro : 0 ≤ (clAt k i).role ∧ (clAt k i).role < k.holders.length := by
              rcases hkf with h | h
              · exact absurd h.1 h3
              · exact h.1
            have e : liveM k w2.hold i = ⟨1, (clAt k i).after, 0, hs.getD (clAt k i).role.toNat default, false⟩ := by
              unfold liveM; rw [if_pos h3, hph]
            rw [e] at hp
            rw [← hh] at hro
            (repeat (first | refine XK.n ?_ | refine XK.a ?_ | refine XK.b ?_))
            refine XK.inv ⟨i + 1, hlt, ?_, by omega⟩
            rw [hp]
            exact (Weak.of hN rfl rfl rfl frI (by (repeat' (first | exact rfl | exact AvIs.refl _ | exact trivial | exact fun _ _ => rfl | exact fun _ _ => ⟨rfl, AvIs.refl _⟩ | exact fun _ hi => absurd hi (Nat.not_lt_zero _) | (intro i hi; cases Nat.lt_one_iff.1 hi; rfl) | (intro j hj; by_cases hji : j = (i); (· subst hji; simp [setRowF, setL, mkC, Wk.upM]; done); (· simp [setRowF, beq_false hji, Wk.upM, hji, lt_succ_ne hji]; done)) | refine ⟨?_, ?_⟩))))
          · have e : liveM k w2.hold i = ⟨1, (clAt k i).after, 0, -1, false⟩ := by
              unfold liveM; rw [if_neg (by simpa using h3)]
            rw [e] at hp
            (repeat (first | refine XK.n ?_ | refine XK.a ?_ | refine XK.b ?_))
            refine XK.inv ⟨i + 1, hlt, ?_, by omega⟩
            rw [hp]
            exact (Weak.of hN rfl rfl rfl frI (by (repeat' (first | exact rfl | exact AvIs.refl _ | exact trivial | exact fun _ _ => rfl | exact fun _ _ => ⟨rfl, AvIs.refl _⟩ | exact fun _ hi => absurd hi (Nat.not_lt_zero _) | (intro i hi; cases Nat.lt_one_iff.1 hi; rfl) | (intro j hj; by_cases hji : j = (i); (· subst hji; simp [setRowF, setL, mkC, Wk.upM]; done); (· simp [setRowF, beq_false hji, Wk.upM, hji, lt_succ_ne hji]; done)) | refine ⟨?_, ?_⟩))))
    · have hie : i = k.clauses.length := by omega
      subst hie
      have hl := fun h => pass_less (k := k) (w := w1) k.clauses.length (Nat.le_refl _) h
      have hn := fun h => pass_none (k := k) (w := w1) k.clauses.length h
      have hph : ∀ j, (passTo k w1 k.clauses.length).1.hold j = hs.getD j default := fun j => by rw [pass_hold (Nat.le_refl _)]; exact g0 j
      rw [startN] at g1
      generalize passTo k w1 k.clauses.length = p at *
      obtain ⟨w2, b2⟩ := p
      dsimp only at hl hn g1 hph
      dsimp only
      (repeat (first | refine XK.n ?_ | refine XK.a ?_ | refine XK.b ?_))
      refine XK.inv ⟨(f, w2, b2), ⟨hph, fun h => ?_, fun h => ?_⟩, (Weak.of hN rfl rfl rfl frI frI), ?_⟩
      · have h : b2 = true := h
        rw [if_pos h] at g1
        have := hl h
        exact ⟨g1, by show idleN k w2.mark < f; omega⟩
      · have h : b2 = false := h
        rw [if_neg (by rw [h]; simp)] at g1
        have := congrArg Prod.fst (hn h).1
        show w2 = _
        rw [← g1]
        exact this
      · dsimp only
        cases b2 <;> simp
  · have hb : b = false := hb
    subst hb
    have g2 := g2 rfl
    subst g2
    (repeat (first | refine XK.n ?_ | refine XK.a ?_ | refine XK.b ?_))
    (first | refine XK.outR [0] hN rfl rfl rfl ?_ rfl rfl ?_ | refine XK.outRN [0] hN rfl rfl rfl ?_ rfl rfl ?_)
    · exact frI
    · exact frI
end
section
open Go.Eng
def hRow (l : List Int) : Ob := .vec 3 1 0 l.length (fun i => [.c (.int .i64 (l.getD i default))])
def bRow (l : List Bool) : Ob := .vec 4 1 0 l.length (fun i => [.c (.bool (l.getD i default))])
def padM (l : List Mk) (i : Nat) : Mk := if i < l.length then l.getD i default else idleMk
theorem pad_row (l : List Mk) (q : Nat) (hq : l.length ≤ q) (i : Nat) : mkC (if i < q + 1 then padM l i else default) = setRowF (fun i => mkC (if i < q then padM l i else default)) q 0 (mkC idleMk) i := by
  unfold setRowF
  by_cases h : i = q
  · subst h
    rw [show Nat.beq i i = true by simp, if_pos (Nat.lt_succ_self i), padM, if_neg (by omega)]
    rfl
  · rw [beq_false h]
    by_cases h2 : i < q
    · rw [if_pos (by omega)]; show _ = mkC (if i < q then _ else _); rw [if_pos h2]
    · rw [if_neg (by omega)]; show _ = mkC (if i < q then _ else _); rw [if_neg h2]
theorem copiedState_ok (s : St) (n : Nat) (hn : s.marks.length ≤ n) (hn2 : n ≤ 1000000) (h1 : s.holders.length ≤ 1000000) (h2 : s.used.length ≤ 1000000) :
    DoesM Tryz.prog 109 [stV s, .c (.int .i64 n)] [] (.agg [.c (.int .i64 s.day), .vec 0 0, .vec 1 0, .vec 2 0]) [hRow s.holders, bRow s.used, mRow n (padM s.marks), .cells 45 [.c (.int .i64 s.day), .vec 0 0, .vec 1 0, .vec 2 0]] := by
  refine DoesM.mk (fun d => Nat.beq d 13 || Nat.beq d 23 || Nat.beq d 31) 100 TT_ok Tryz.func109 rfl (by kernel_rfl) Tryz.ntmps109 rfl rfl rfl fun E hT hE hN hR => ?_
  have hm := mixO hE
  (repeat (first | refine XK.n ?_ | refine XK.a ?_ | refine XK.b ?_))
  refine XK.weak (st' := ST.of [(1, .c (.int .i64 n)), (4, .ptr 104 0), (5, .ptr 154 0), (6, .c (.int .i64 s.marks.length))]
    [(104, .cells 45 [.c (.int .i64 0), .c (.slice none 0 0), .c (.slice none 0 0), .c (.slice none 0 0)]), (154, .cells 45 [.c (.int .i64 s.day), .vec 211 0, .vec 319 0, .vec 425 0]), (211, hRow s.holders), (319, bRow s.used), (425, mRow n (fun i => if i < s.marks.length then s.marks.getD i default else default))] 1000 49 (fun d => Nat.beq d 13 || Nat.beq d 23 || Nat.beq d 31))
    (Weak.of hN rfl rfl rfl frI ⟨frI, frI, ⟨⟨rfl, rfl, rfl⟩, rfl, fun i hi => ?x1⟩, ⟨⟨rfl, rfl, rfl⟩, rfl, fun i hi => ?x2⟩, ⟨⟨rfl, rfl, rfl⟩, rfl, fun i hi => ?x3⟩⟩) ?_
  · exact (cpF_lt (m := s.holders.length) (f := fun i => [.c (.int .i64 (s.holders.getD i default))]) hi).symm
  · exact (cpF_lt (m := s.used.length) (f := fun i => [.c (.bool (s.used.getD i default))]) hi).symm
  · by_cases h : i < s.marks.length
    · have := cpF_lt (m := s.marks.length) (f := fun i => mkC (s.marks.getD i default)) (f0 := fun x => List.map AV.c ty106e.zero) h
      exact (this.trans (by show mkC _ = mkC (if i < s.marks.length then _ else _); rw [if_pos h])).symm
    · have := cpF_ge (m := s.marks.length) (f := fun i => mkC (s.marks.getD i default)) (f0 := fun x => List.map AV.c ty106e.zero) h
      exact (this.trans (by show _ = mkC (if i < s.marks.length then _ else _); rw [if_neg h]; rfl)).symm
  have hl := idleM_ok
  refine XK.loop (ι := Nat) (fun q => ST.of [(1, .c (.int .i64 n)), (4, .ptr 104 0), (5, .ptr 154 0), (6, .c (.int .i64 q))]
    [(104, .cells 45 [.c (.int .i64 0), .c (.slice none 0 0), .c (.slice none 0 0), .c (.slice none 0 0)]), (154, .cells 45 [.c (.int .i64 s.day), .vec 211 0, .vec 319 0, .vec 425 0]), (211, hRow s.holders), (319, bRow s.used), (425, mRow n (fun i => if i < q then padM s.marks i else default))] 2000 49 (fun d => Nat.beq d 13 || Nat.beq d 23 || Nat.beq d 31))
    (fun q => s.marks.length ≤ q ∧ q ≤ n) (fun q => n - q) s.marks.length ⟨Nat.le_refl _, hn⟩
    (Weak.of hN rfl rfl rfl frI ⟨frI, frI, frI, frI, ⟨rfl, rfl, rfl⟩, rfl, fun i hi => congrArg mkC (by
      by_cases h : i < s.marks.length
      · show (if i < s.marks.length then _ else _) = (if i < s.marks.length then _ else _)
        rw [if_pos h, if_pos h, padM, if_pos h]
      · show (if i < s.marks.length then _ else _) = (if i < s.marks.length then _ else _)
        rw [if_neg h, if_neg h])⟩) fun q hq => ?_
  obtain ⟨hq0, hq⟩ := hq
  (repeat (first | refine XK.n ?_ | refine XK.a ?_ | refine XK.b ?_)); refine XK.cond rfl (fun hlt => ?_) (fun hlt => ?_) <;> (try simp at hlt)
  · (repeat (first | refine XK.n ?_ | refine XK.a ?_ | refine XK.b ?_)); refine XK.drawn hm ?_; refine XD.goA hT rfl rfl rfl rfl ?_
    refine XD.callLA hE rfl rfl rfl rfl trivial rfl (hl) rfl ?_
    refine XD.goA hT rfl rfl rfl rfl ?_; refine XD.fin (by kernel_rfl) ?_; (repeat (first | refine XK.n ?_ | refine XK.a ?_ | refine XK.b ?_))
    exact XK.inv ⟨q + 1, ⟨by omega, hlt⟩, Weak.of hN rfl rfl rfl frI ⟨frI, frI, frI, frI, ⟨rfl, rfl, rfl⟩, rfl, fun i hi => pad_row s.marks q hq0 i⟩, by omega⟩
  · have hqn : q = n := by omega
    subst hqn
    (repeat (first | refine XK.n ?_ | refine XK.a ?_ | refine XK.b ?_))
    (first | refine XK.outR [211, 319, 425, 104] hN rfl rfl rfl ?_ rfl rfl ?_ | refine XK.outRN [211, 319, 425, 104] hN rfl rfl rfl ?_ rfl rfl ?_)
    · exact ⟨frI, frI, ⟨⟨rfl, rfl, rfl⟩, rfl, fun i hi => congrArg mkC (by show padM s.marks i = (if i < q then _ else _); rw [if_pos hi])⟩, frI⟩
    · exact frI
end
section
open Go.Eng
def chgM (k : K) (p : Pt) (hold : List Int) (x : Nat) (m : Mk) : Mk :=
  if p.kind = 5 then spanM p.days (clAt k x) m else if p.kind = 2 then replM p.new (clAt k x) m hold else if p.kind = 1 then addM p.new m else voidM m
def chgV (k : K) (p : Pt) (hold : List Int) : AV :=
  if p.kind = 5 then .fn (.func 146) [] [.rptr (ptC p), .rptr (kC k)]
  else if p.kind = 2 then .fn (.func 147) [] [.rptr (ptC p), .rptr (kC k), .rptr [intsV hold]]
  else if p.kind = 1 then .fn (.func 152) [] [.rptr (ptC p)]
  else .fn (.func 153) [] []
theorem change_ok (k : K) (p : Pt) (hold : List Int) : Does Tryz.prog 110 [kV k, ptV p, intsV hold] (chgV k p hold) := by
  refine Does.mk (fun _ => false) TT_ok Tryz.func110 rfl (by kernel_rfl) Tryz.ntmps110 rfl rfl fun E hT hE hN hR => ?_
  have hm := mixO hE
  (repeat (first | refine XK.n ?_ | refine XK.a ?_ | refine XK.b ?_)); refine XK.cond rfl (fun h1 => ?_) (fun h1 => ?_) <;> (try simp at h1)
  · rw [chgV, if_pos h1]
    (repeat (first | refine XK.n ?_ | refine XK.a ?_ | refine XK.b ?_))
    refine XK.weak (Weak.trans (Weak.frozenC (k := 3) hN rfl rfl rfl) (Weak.frozenC (k := 4) hN rfl rfl rfl)) ?_
    (first | refine XK.o ?_ | refine XK.p ?_)
    rfl
  (repeat (first | refine XK.n ?_ | refine XK.a ?_ | refine XK.b ?_)); refine XK.cond rfl (fun h2 => ?_) (fun h2 => ?_) <;> (try simp at h2)
  · rw [chgV, if_neg h1, if_pos h2]
    (repeat (first | refine XK.n ?_ | refine XK.a ?_ | refine XK.b ?_))
    refine XK.weak (Weak.trans (Weak.frozenC (k := 3) hN rfl rfl rfl) (Weak.trans (Weak.frozenC (k := 4) hN rfl rfl rfl) (Weak.frozenC (k := 5) hN rfl rfl rfl))) ?_
    (first | refine XK.o ?_ | refine XK.p ?_)
    rfl
  (repeat (first | refine XK.n ?_ | refine XK.a ?_ | refine XK.b ?_)); refine XK.cond rfl (fun h3 => ?_) (fun h3 => ?_) <;> (try simp at h3)
  · rw [chgV, if_neg h1, if_neg h2, if_pos h3]
    (repeat (first | refine XK.n ?_ | refine XK.a ?_ | refine XK.b ?_))
    refine XK.weak (Weak.frozenC (k := 4) hN rfl rfl rfl) ?_
    (first | refine XK.o ?_ | refine XK.p ?_)
    rfl
  · rw [chgV, if_neg h1, if_neg h2, if_neg h3]
    (repeat (first | refine XK.n ?_ | refine XK.a ?_ | refine XK.b ?_))
    (first | refine XK.o ?_ | refine XK.p ?_)
    rfl
end
section
open Go.Eng
theorem incB_last {n : Int} : ∀ {l : List Int} {last : Int}, incB n last l = true → ∀ i, i < l.length → last < l.getD i default
  | [], _, _, i, hi => absurd hi (Nat.not_lt_zero _)
  | x :: l, last, h, i, hi => by
    simp only [incB, Bool.and_eq_true, decide_eq_true_eq] at h
    cases i with
    | zero => exact h.1.1
    | succ i => have := incB_last h.2 i (by simpa using hi); exact Int.lt_trans h.1.1 this
theorem incB_lt {n : Int} : ∀ {l : List Int} {last : Int}, incB n last l = true → ∀ i j, i < j → j < l.length → l.getD i default < l.getD j default
  | [], _, _, _, j, _, hj => absurd hj (Nat.not_lt_zero _)
  | x :: l, last, h, i, j, hij, hj => by
    simp only [incB, Bool.and_eq_true, decide_eq_true_eq] at h
    cases j with
    | zero => omega
    | succ j =>
      cases i with
      | zero => exact incB_last h.2 j (by simpa using hj)
      | succ i => exact incB_lt h.2 i j (by omega) (by simpa using hj)
def listP (k : K) (p : Pt) : List Int := if p.kind = 1 then [(k.clauses.length : Int)] else p.clauses
def mkTo (k : K) (p : Pt) (hold : List Int) (m0 : Nat → Mk) (L : List Int) : Nat → Nat → Mk
  | 0 => m0
  | i + 1 => fun j => if j = (L.getD i default).toNat then chgM k p hold (L.getD i default).toNat (mkTo k p hold m0 L i (L.getD i default).toNat) else mkTo k p hold m0 L i j
theorem mkTo_keep {k : K} {p : Pt} {hold : List Int} {m0 : Nat → Mk} {L : List Int} {j : Nat} : ∀ {i : Nat}, (∀ q, q < i → (L.getD q default).toNat ≠ j) → mkTo k p hold m0 L i j = m0 j
  | 0, _ => rfl
  | i + 1, h => by
    show (if j = (L.getD i default).toNat then _ else _) = _
    rw [if_neg fun e => h i (Nat.lt_succ_self i) e.symm]
    exact mkTo_keep fun q hq => h q (by omega)
structure LOk (n : Nat) (L : List Int) : Prop where
  rng : ∀ i, i < L.length → 0 ≤ L.getD i default ∧ L.getD i default < n
  lt : ∀ i j, i < j → j < L.length → L.getD i default < L.getD j default
theorem LOk.at {k : K} {p : Pt} {hold : List Int} {m0 : Nat → Mk} {n : Nat} {L : List Int} (h : LOk n L) {i : Nat} (hi : i < L.length) : mkTo k p hold m0 L i (L.getD i default).toNat = m0 (L.getD i default).toNat :=
  mkTo_keep fun q hq e => by
    have h1 := h.lt q i hq hi
    have h2 := (h.rng q (by omega)).1
    have h3 := (h.rng i hi).1
    omega
theorem LOk.in {k : K} {p : Pt} {hold : List Int} {m0 : Nat → Mk} {n : Nat} {L : List Int} (h : LOk n L) {i : Nat} (hi : i < L.length) : mkTo k p hold m0 L L.length (L.getD i default).toNat = chgM k p hold (L.getD i default).toNat (m0 (L.getD i default).toNat) := by
  have : ∀ m, i < m → m ≤ L.length → mkTo k p hold m0 L m (L.getD i default).toNat = chgM k p hold (L.getD i default).toNat (m0 (L.getD i default).toNat) := fun m => by
    induction m with
    | zero => intro h1; omega
    | succ m ih =>
      intro h1 h2
      show (if (L.getD i default).toNat = (L.getD m default).toNat then _ else _) = _
      by_cases e : i = m
      · subst e
        rw [if_pos rfl, h.at hi]
      · have h3 := h.lt i m (by omega) (by omega)
        have h4 := (h.rng i hi).1
        rw [if_neg (by omega)]
        exact ih (by omega) (by omega)
  exact this L.length hi (Nat.le_refl _)
theorem markB_left {k : K} (hk : KFacts k) {i : Nat} (hi : i < k.clauses.length) {m : Mk} (h : markB k i m = true) : lB m := by
  have hc := hk.clB hi
  have hg := kindW hc.2.2.1
  unfold markB at h
  unfold lB
  split at h
  · simp only [idleB, Bool.and_eq_true, beq_iff_eq] at h
    omega
  · have hrun : runB k (clAt k i) m = true → 1 ≤ m.left := fun h => by
      unfold runB at h
      split at h
      · cases h
      · rename_i h2
        simp only [Bool.or_eq_true, decide_eq_true_eq, not_or] at h2
        omega
    split at h
    · simp only [Bool.and_eq_true, decide_eq_true_eq] at h
      have := hrun h.2
      omega
    · split at h
      · simp only [Bool.and_eq_true, decide_eq_true_eq] at h
        have := hrun h.2
        rcases hg with hg | hg <;> omega
      · split at h
        · simp only [endB, Bool.and_eq_true, beq_iff_eq] at h
          omega
        · cases h
theorem dB_of {k : K} (hk : KFacts k) {i : Nat} (hi : i < k.clauses.length) : dB (clAt k i) := by
  have hc := hk.clB hi
  have hg := kindW hc.2.2.1
  unfold dB
  rcases hg with hg | hg <;> omega
structure PFacts (k : K) (p : Pt) : Prop where
  kk : KFacts k
  kn : KFacts (applyR k p).1
  eq : (applyR k p).1 = { k with clauses := doP k.clauses p }
  kind : p.kind = 1 ∨ p.kind = 2 ∨ p.kind = 3 ∨ p.kind = 4 ∨ p.kind = 5
  len : (applyR k p).1.clauses.length = if p.kind = 1 then k.clauses.length + 1 else k.clauses.length
  lok : LOk (applyR k p).1.clauses.length (listP k p)
  old : p.kind ≠ 1 → ∀ i, i < (listP k p).length → ((listP k p).getD i default).toNat < k.clauses.length
  days : p.kind = 5 → 1 ≤ p.days ∧ p.days ≤ 400
  one : p.kind = 2 → ∃ x, p.clauses = [x] ∧ 0 ≤ x ∧ x.toNat < k.clauses.length ∧ clAt (applyR k p).1 x.toNat = p.new
  add : p.kind = 1 → p.clauses = [] ∧ clAt (applyR k p).1 k.clauses.length = p.new
theorem waiveL_len (cs : List Cl) (l : List Int) : (waiveL cs l).length = cs.length := by
  unfold waiveL
  induction l generalizing cs with
  | nil => rfl
  | cons a l ih => rw [List.foldl_cons, ih, List.length_set]
theorem spanL_len (d : Int) (cs : List Cl) (l : List Int) : (spanL d cs l).length = cs.length := by
  unfold spanL
  induction l generalizing cs with
  | nil => rfl
  | cons a l ih => rw [List.foldl_cons, ih, List.length_set]
theorem patch_facts {k : K} {p : Pt} (hk : kW k) (hp : ptW p) (h : (applyR k p).2 = 0) : PFacts k p := by
  rcases applyR_cases k p with ⟨h2, _⟩ | ⟨_, hv, he, hv2, e, hef, hft⟩
  · exact absurd h h2
  have hkk := (show kOk k from ⟨hk, hv⟩).facts
  have hkn := (show kOk (applyR k p).1 from ⟨applyR_W hk hp, hv2⟩).facts
  obtain ⟨⟨f1, f2⟩, f3⟩ := fits_facts hft
  have hdays : (if e.spanned then decide (1 ≤ p.days) && decide (p.days ≤ 400) else p.days == 0) = true := by
    unfold fitsB at hft
    simp only [Bool.and_eq_true] at hft
    exact hft.2
  have hkind : p.kind = 1 ∨ p.kind = 2 ∨ p.kind = 3 ∨ p.kind = 4 ∨ p.kind = 5 := by
    unfold efOf at hef
    repeat (split at hef; · omega)
    cases hef
  have hlen : (applyR k p).1.clauses.length = if p.kind = 1 then k.clauses.length + 1 else k.clauses.length := by
    rw [he]
    show (doP k.clauses p).length = _
    unfold doP
    split
    · simp
    · split
      · simp
      · split
        · rw [spanL_len]
        · rw [waiveL_len]
  refine ⟨hkk, hkn, he, hkind, hlen, ?_, ?_, ?_, ?_, ?_⟩
  · unfold listP
    by_cases h1 : p.kind = 1
    · rw [if_pos h1] at hlen ⊢
      rw [hlen]
      refine ⟨fun i hi => ?_, fun i j hij hj => ?_⟩
      · have : i = 0 := by simp at hi; exact hi
        subst this
        show 0 ≤ (k.clauses.length : Int) ∧ (k.clauses.length : Int) < _
        omega
      · simp at hj; omega
    · rw [if_neg h1] at hlen ⊢
      rw [hlen]
      exact ⟨fun i hi => incB_idx (by omega) f3 i hi, incB_lt f3⟩
  · intro h1 i hi
    unfold listP at hi ⊢
    rw [if_neg h1] at hi ⊢
    have := incB_idx (by omega) f3 i hi
    omega
  · intro h1
    unfold efOf at hef
    rw [h1] at hef
    simp at hef
    rw [← hef] at hdays
    simpa using hdays
  · intro h1
    unfold efOf at hef
    rw [h1] at hef
    simp at hef
    rw [← hef] at f1 f2
    dsimp only at f1 f2
    have hl1 : p.clauses.length = 1 := by omega
    obtain ⟨x, hx⟩ := List.length_eq_one_iff.1 hl1
    have hr := incB_idx (by omega) f3 0 (by omega)
    rw [hx] at hr
    have hr : 0 ≤ x ∧ x < k.clauses.length := hr
    refine ⟨x, hx, hr.1, by omega, ?_⟩
    have hxl : x.toNat < k.clauses.length := by omega
    rw [he]
    show (doP k.clauses p).getD x.toNat default = _
    unfold doP
    rw [if_neg (by omega), if_pos h1, hx]
    show (k.clauses.set x.toNat p.new).getD x.toNat default = _
    simp [List.getD, hxl]
  · intro h1
    unfold efOf at hef
    rw [h1] at hef
    simp at hef
    rw [← hef] at f2
    dsimp only at f2
    refine ⟨List.length_eq_zero_iff.1 (by omega), ?_⟩
    rw [he]
    show (doP k.clauses p).getD k.clauses.length default = _
    unfold doP
    rw [if_pos h1]
    simp [List.getD]
end
section
open Go.Eng
noncomputable def migM (k : K) (p : Pt) (s : St) : Nat → Mk := mkTo k p s.holders (padM s.marks) (listP k p) (listP k p).length
noncomputable def migW (k : K) (p : Pt) (s : St) : Wk := startW (applyR k p).1 ⟨s.day, fun i => s.holders.getD i default, fun i => s.used.getD i default, migM k p s⟩
noncomputable def migS (k : K) (p : Pt) (s : St) : St := ⟨s.day, s.holders, s.used, (List.range (applyR k p).1.clauses.length).map (migW k p s).mark⟩
noncomputable def migR (k : K) (p : Pt) (s : St) : (K × St) × Int := if (applyR k p).2 ≠ 0 then ((zeroK, zS), (applyR k p).2) else (((applyR k p).1, migS k p s), 0)
def nilK : AV := .agg [.c (.int .i64 0), .c (.slice none 0 0), .c (.slice none 0 0), .c (.slice none 0 0), .c (.slice none 0 0), .c (.int .i64 0), .c (.slice none 0 0)]
theorem migratedErr_ok (k : K) (hk : kW k) (p : Pt) (hp : ptW p) (hc : p.clauses.length ≤ 1000000) (hs : p.new.start.length ≤ 1000000) (s : St) (h : (applyR k p).2 ≠ 0) :
    Does Tryz.prog 66 [kV k, ptV p, stV s] (.tup [nilK, nilS, .c (.int .i64 (applyR k p).2)]) := by
  have ap := apply_ok k hk p hp hc hs
  generalize applyR k p = r at *
  refine Does.mk (fun _ => false) TT_ok Tryz.func66 rfl (by kernel_rfl) Tryz.ntmps66 rfl rfl fun E hT hE hN hR => ?_
  have hm := mixO hE
  (repeat (first | refine XK.n ?_ | refine XK.a ?_ | refine XK.b ?_)); refine XK.region ?_; refine XL.g ?_
  refine XL.callKA hE rfl rfl rfl rfl trivial rfl rfl (ap) ?_
  refine XL.g ?_; refine XL.fin ?_; (repeat (first | refine XK.n ?_ | refine XK.a ?_ | refine XK.b ?_))
  (repeat (first | refine XK.n ?_ | refine XK.a ?_ | refine XK.b ?_)); refine XK.cond rfl (fun h1 => ?_) (fun h1 => ?_) <;> (try simp at h1)
  · (repeat (first | refine XK.n ?_ | refine XK.a ?_ | refine XK.b ?_))
    (first | refine XK.o ?_ | refine XK.p ?_)
    rfl
  · exact absurd h1 h
theorem mk_row (k : K) (p : Pt) (hold : List Int) (m0 : Nat → Mk) (L : List Int) (i n : Nat) (hn : L.getD i default = (n : Int)) (j : Nat) :
    mkC (mkTo k p hold m0 L (i + 1) j) = setRowF (fun j => mkC (mkTo k p hold m0 L i j)) n 0 (mkC (chgM k p hold n (mkTo k p hold m0 L i n))) j := by
  unfold setRowF
  show mkC (if j = (L.getD i default).toNat then _ else _) = _
  rw [hn, show ((n : Nat) : Int).toNat = n from rfl]
  by_cases h : j = n
  · subst h
    rw [if_pos rfl, show Nat.beq j j = true by simp]
    rfl
  · rw [if_neg h, beq_false h]; rfl
theorem pad_B {k : K} (hk : KFacts k) {s : St} (hv : validS k s = true) (n : Nat) : lB (padM s.marks n) := by
  unfold padM
  split
  · rename_i h
    obtain ⟨_, _, _, l3, _, _, _, l8⟩ := validS_len hv
    have := l8 n h
    simp only [Bool.and_eq_true] at this
    exact markB_left hk (by omega) this.1
  · exact ⟨by decide, by decide⟩
set_option maxHeartbeats 1000000 in
theorem migratedGo_ok (k : K) (hk : kW k) (p : Pt) (hp : ptW p) (hc : p.clauses.length ≤ 1000000) (hs : p.new.start.length ≤ 1000000) (s : St) (hv : validS k s = true) (h : (applyR k p).2 = 0) :
    Does Tryz.prog 66 [kV k, ptV p, stV s] (.tup [kV (applyR k p).1, .agg [.c (.int .i64 s.day), intsV s.holders, boolsV s.used, .rs 5 (applyR k p).1.clauses.length (fun i => mkC ((migW k p s).mark i))], .c (.int .i64 0)]) := by
  have ap := apply_ok k hk p hp hc hs
  have hF := patch_facts hk hp h
  have hl := validS_len hv
  obtain ⟨l0, l1, l2, l3, -⟩ := hl
  have b1 := hF.kk.nh
  have b2 := hF.kk.na
  have b3 := hF.kk.nc
  have b4 := hF.kn.nc
  have hlen := hF.len
  have hle : s.marks.length ≤ (applyR k p).1.clauses.length := by rw [hlen, l3]; split <;> omega
  have cs := copiedState_ok s (applyR k p).1.clauses.length hle (by omega) (by omega) (by omega)
  have ch := change_ok k p s.holders
  have hmig : (migW k p s) = startW (applyR k p).1 ⟨s.day, fun i => s.holders.getD i default, fun i => s.used.getD i default, migM k p s⟩ := rfl
  have hst := mstart_ok (applyR k p).1 hF.kn s.day s.holders s.used (by rw [l1, hF.eq]) ⟨s.day, fun i => s.holders.getD i default, fun i => s.used.getD i default, migM k p s⟩ (fun _ => rfl)
  rw [← hmig] at hst
  generalize hmw : migW k p s = mw at *
  clear hmig
  rw [h] at ap
  generalize hr : (applyR k p).1 = k' at *
  refine Does.mk (fun _ => false) TT_ok Tryz.func66 rfl (by kernel_rfl) Tryz.ntmps66 rfl rfl fun E hT hE hN hR => ?_
  have hm := mixO hE
  (repeat (first | refine XK.n ?_ | refine XK.a ?_ | refine XK.b ?_)); refine XK.region ?_; refine XL.g ?_
  refine XL.callKA hE rfl rfl rfl rfl trivial rfl rfl (ap) ?_
  refine XL.g ?_; refine XL.fin ?_; (repeat (first | refine XK.n ?_ | refine XK.a ?_ | refine XK.b ?_))
  (repeat (first | refine XK.n ?_ | refine XK.a ?_ | refine XK.b ?_)); refine XK.cond rfl (fun h1 => ?_) (fun h1 => ?_)
  · cases h1
  clear h1
  (repeat (first | refine XK.n ?_ | refine XK.a ?_ | refine XK.b ?_))
  (repeat (first | refine XK.n ?_ | refine XK.a ?_ | refine XK.b ?_)); refine XK.region ?_; refine XL.g ?_
  refine XL.callMA [700, 701, 702, 703] hE rfl rfl rfl rfl trivial (cs) rfl rfl rfl rfl rfl ?_
  refine XL.g ?_; refine XL.fin ?_; (repeat (first | refine XK.n ?_ | refine XK.a ?_ | refine XK.b ?_))
  refine XK.weak (Weak.trans (Weak.of (L := [(3, .ptr 3 0), (4, .ptr 4 0), (6, .ptr 6 0), (7, .ptr 7 0), (8, .c (.int .i64 0)), (9, .ptr 79 0), (11, .ptr 221 0)])
    (O := [(3, .cells 27 (kC k)), (4, .cells 58 (ptC p)), (6, .cells 27 [.c (.int .i64 0), .c (.slice none 0 0), .c (.slice none 0 0), .c (.slice none 0 0), .c (.slice none 0 0), .c (.int .i64 0), .c (.slice none 0 0)]), (7, .cells 45 [.c (.int .i64 0), .c (.slice none 0 0), .c (.slice none 0 0), .c (.slice none 0 0)]),
      (79, .cells 27 (kC k')), (221, .cells 45 [.c (.int .i64 s.day), .vec 700 0, .vec 701 0, .vec 702 0]), (700, hRow s.holders), (701, bRow s.used), (702, mRow k'.clauses.length (padM s.marks))]) (nx := 1000) (nt := 70) (md := fun _ => false) hN rfl rfl rfl frI frI)
    (Weak.trans (Weak.frozen (k := 700) hN rfl rfl) (Weak.trans (Weak.frozen (k := 701) hN rfl rfl) (Weak.of (L := [(3, .ptr 3 0), (4, .ptr 4 0), (6, .ptr 6 0), (7, .ptr 7 0), (8, .c (.int .i64 0)), (9, .ptr 79 0), (11, .ptr 221 0)])
    (O := [(3, .cells 27 (kC k)), (4, .cells 58 (ptC p)), (6, .cells 27 [.c (.int .i64 0), .c (.slice none 0 0), .c (.slice none 0 0), .c (.slice none 0 0), .c (.slice none 0 0), .c (.int .i64 0), .c (.slice none 0 0)]), (7, .cells 45 [.c (.int .i64 0), .c (.slice none 0 0), .c (.slice none 0 0), .c (.slice none 0 0)]),
      (79, .cells 27 (kC k')), (221, stO s.day s.holders s.used 702), (702, mRow k'.clauses.length (padM s.marks))]) (nx := 1000) (nt := 70) (md := fun _ => false) hN rfl rfl rfl frI frI)))) ?_
  have hL := hF.lok
  have hpad := pad_B hF.kk hv
  have hrole : ∀ x, x < k'.clauses.length → clAt k' x = p.new → p.new.kind ≠ 4 → 0 ≤ p.new.role ∧ p.new.role < s.holders.length := fun x hx he h4 => by
    have hkn := hF.kn
    have hke := hF.eq
    rw [hr] at hkn hke
    have hkw := kindW (hkn.clB hx).2.2.1
    rw [he] at hkw
    rcases hkw with h | h
    · exact absurd h.1 h4
    · rw [l1]; rw [hke] at h; exact h.1
  have hOld : ∀ i, i < (listP k p).length → ¬ p.kind = 1 → ((listP k p).getD i default).toNat < k.clauses.length := fun i hi h1 => hF.old h1 i hi
  rw [hr] at hL
  have hmg : migM k p s = mkTo k p s.holders (padM s.marks) (listP k p) (listP k p).length := rfl
  by_cases k5 : p.kind = 5
  · have hk1 : ¬ p.kind = 1 := by omega
    rw [chgV, if_pos k5] at ch
    have hcg : ∀ n m, chgM k p s.holders n m = spanM p.days (clAt k n) m := fun n m => by unfold chgM; rw [if_pos k5]
    (repeat (first | refine XK.n ?_ | refine XK.a ?_ | refine XK.b ?_)); refine XK.region ?_; refine XL.g ?_
    refine XL.callKA hE rfl rfl rfl rfl trivial rfl rfl (ch) ?_
    refine XL.g ?_; refine XL.fin ?_; (repeat (first | refine XK.n ?_ | refine XK.a ?_ | refine XK.b ?_))
    (repeat (first | refine XK.n ?_ | refine XK.a ?_ | refine XK.b ?_)); refine XK.cond rfl (fun h2 => ?_) (fun h2 => ?_) <;> (try simp at h2)
    · exact absurd h2 hk1
    have hLp : listP k p = p.clauses := if_neg hk1
    rw [hLp] at hL hmg hOld
    generalize p.clauses = L at *
    (repeat (first | refine XK.n ?_ | refine XK.a ?_ | refine XK.b ?_))
    refine XK.loop (ι := Nat) (fun i => ST.of [(6, .ptr 6 0), (7, .ptr 7 0), (8, .c (.int .i64 0)), (9, .ptr 79 0), (11, .ptr 221 0), (12, .fn (.func 146) [] [.rptr (ptC p), .rptr (kC k)]), (46, intsV L), (47, .c (.int .i64 L.length)), (48, .c (.int .i64 i))]
      [(6, .cells 27 [.c (.int .i64 0), .c (.slice none 0 0), .c (.slice none 0 0), .c (.slice none 0 0), .c (.slice none 0 0), .c (.int .i64 0), .c (.slice none 0 0)]), (7, .cells 45 [.c (.int .i64 0), .c (.slice none 0 0), .c (.slice none 0 0), .c (.slice none 0 0)]), (79, .cells 27 (kC k')), (221, stO s.day s.holders s.used 702), (702, mRow k'.clauses.length (mkTo k p s.holders (padM s.marks) L i))] 2000 70 (fun _ => false))
      (fun i => i ≤ L.length) (fun i => L.length - i) 0 (Nat.zero_le _) (Weak.of hN rfl rfl rfl frI frI) fun i hi => ?_
    (repeat (first | refine XK.n ?_ | refine XK.a ?_ | refine XK.b ?_)); refine XK.cond rfl (fun hlt => ?_) (fun hlt => ?_) <;> (try simp at hlt)
    · obtain ⟨hx1, hx2⟩ := hL.rng i hlt
      have hat := hL.at (k := k) (p := p) (hold := s.holders) (m0 := padM s.marks) hlt
      have hOl := hOld i hlt
      obtain ⟨n, hn⟩ := Int.eq_ofNat_of_zero_le hx1
      have fx : L.getD (i : Int).toNat default = (n : Int) := hn
      have hrow := mk_row k p s.holders (padM s.marks) L i n hn
      rw [hn] at hx2 hat hOl
      generalize hmm : mkTo k p s.holders (padM s.marks) L i = mm at *
      have hmn : mm n = padM s.marks n := hat
      have hc := change1_ok k p n (hOl hk1) (mm n) (dB_of hF.kk (hOl hk1)) (by have := hF.days k5; omega) (by rw [hmn]; exact hpad n)
      rw [← hcg] at hc
      (repeat (first | refine XK.n ?_ | refine XK.a ?_ | refine XK.b ?_))
      rw [fx]
      (repeat (first | refine XK.n ?_ | refine XK.a ?_ | refine XK.b ?_)); refine XK.drawn hm ?_; refine XD.goA hT rfl rfl rfl rfl ?_
      refine XD.callLA hE rfl rfl rfl rfl trivial rfl (hc) rfl ?_
      refine XD.goA hT rfl rfl rfl rfl ?_; refine XD.fin (by kernel_rfl) ?_; (repeat (first | refine XK.n ?_ | refine XK.a ?_ | refine XK.b ?_))
      refine XK.inv ⟨i + 1, hlt, ?_, by omega⟩
      exact Weak.of hN rfl rfl rfl frI ⟨frI, frI, frI, frI, ⟨rfl, rfl, rfl⟩, rfl, fun j hj => hrow j⟩
    · have hie : i = L.length := by omega
      subst hie
      rw [← hmg]
      (repeat (first | refine XK.n ?_ | refine XK.a ?_ | refine XK.b ?_)); refine XK.region ?_; refine XL.g ?_
      refine XL.callMA [702] hE rfl rfl rfl rfl trivial (hst) rfl rfl rfl rfl rfl ?_
      refine XL.g ?_; refine XL.fin ?_; (repeat (first | refine XK.n ?_ | refine XK.a ?_ | refine XK.b ?_))
      refine XK.weak (Weak.frozen (k := 702) hN rfl rfl) ?_
      (repeat (first | refine XK.n ?_ | refine XK.a ?_ | refine XK.b ?_))
      (first | refine XK.o ?_ | refine XK.p ?_)
      rfl
  by_cases k2 : p.kind = 2
  · have hk1 : ¬ p.kind = 1 := by omega
    obtain ⟨x0, hx0, hx01, hx02, hx03⟩ := hF.one k2
    have hx04 : x0.toNat < k'.clauses.length := by rw [hlen, if_neg hk1]; exact hx02
    have hnd : dB p.new := by rw [← hx03]; exact dB_of hF.kn (by rw [hr]; exact hx04)
    have hnr : p.new.kind ≠ 4 → 0 ≤ p.new.role ∧ p.new.role < s.holders.length := fun h4 => hrole x0.toNat hx04 (by rw [← hr]; exact hx03) h4
    rw [chgV, if_neg k5, if_pos k2] at ch
    have hcg : ∀ n m, chgM k p s.holders n m = replM p.new (clAt k n) m s.holders := fun n m => by unfold chgM; rw [if_neg k5, if_pos k2]
    (repeat (first | refine XK.n ?_ | refine XK.a ?_ | refine XK.b ?_)); refine XK.region ?_; refine XL.g ?_
    refine XL.callKA hE rfl rfl rfl rfl trivial rfl rfl (ch) ?_
    refine XL.g ?_; refine XL.fin ?_; (repeat (first | refine XK.n ?_ | refine XK.a ?_ | refine XK.b ?_))
    (repeat (first | refine XK.n ?_ | refine XK.a ?_ | refine XK.b ?_)); refine XK.cond rfl (fun h2 => ?_) (fun h2 => ?_) <;> (try simp at h2)
    · exact absurd h2 hk1
    have hLp : listP k p = p.clauses := if_neg hk1
    rw [hLp] at hL hmg hOld
    generalize p.clauses = L at *
    (repeat (first | refine XK.n ?_ | refine XK.a ?_ | refine XK.b ?_))
    refine XK.loop (ι := Nat) (fun i => ST.of [(6, .ptr 6 0), (7, .ptr 7 0), (8, .c (.int .i64 0)), (9, .ptr 79 0), (11, .ptr 221 0), (12, .fn (.func 147) [] [.rptr (ptC p), .rptr (kC k), .rptr [intsV s.holders]]), (46, intsV L), (47, .c (.int .i64 L.length)), (48, .c (.int .i64 i))]
      [(6, .cells 27 [.c (.int .i64 0), .c (.slice none 0 0), .c (.slice none 0 0), .c (.slice none 0 0), .c (.slice none 0 0), .c (.int .i64 0), .c (.slice none 0 0)]), (7, .cells 45 [.c (.int .i64 0), .c (.slice none 0 0), .c (.slice none 0 0), .c (.slice none 0 0)]), (79, .cells 27 (kC k')), (221, stO s.day s.holders s.used 702), (702, mRow k'.clauses.length (mkTo k p s.holders (padM s.marks) L i))] 2000 70 (fun _ => false))
      (fun i => i ≤ L.length) (fun i => L.length - i) 0 (Nat.zero_le _) (Weak.of hN rfl rfl rfl frI frI) fun i hi => ?_
    (repeat (first | refine XK.n ?_ | refine XK.a ?_ | refine XK.b ?_)); refine XK.cond rfl (fun hlt => ?_) (fun hlt => ?_) <;> (try simp at hlt)
    · obtain ⟨hx1, hx2⟩ := hL.rng i hlt
      have hat := hL.at (k := k) (p := p) (hold := s.holders) (m0 := padM s.marks) hlt
      have hOl := hOld i hlt
      obtain ⟨n, hn⟩ := Int.eq_ofNat_of_zero_le hx1
      have fx : L.getD (i : Int).toNat default = (n : Int) := hn
      have hrow := mk_row k p s.holders (padM s.marks) L i n hn
      rw [hn] at hx2 hat hOl
      generalize hmm : mkTo k p s.holders (padM s.marks) L i = mm at *
      have hmn : mm n = padM s.marks n := hat
      have hc := change2_ok k p s.holders n (hOl hk1) (mm n) (dB_of hF.kk (hOl hk1)) hnd (by rw [hmn]; exact hpad n) hnr
      rw [← hcg] at hc
      (repeat (first | refine XK.n ?_ | refine XK.a ?_ | refine XK.b ?_))
      rw [fx]
      (repeat (first | refine XK.n ?_ | refine XK.a ?_ | refine XK.b ?_)); refine XK.drawn hm ?_; refine XD.goA hT rfl rfl rfl rfl ?_
      refine XD.callLA hE rfl rfl rfl rfl trivial rfl (hc) rfl ?_
      refine XD.goA hT rfl rfl rfl rfl ?_; refine XD.fin (by kernel_rfl) ?_; (repeat (first | refine XK.n ?_ | refine XK.a ?_ | refine XK.b ?_))
      refine XK.inv ⟨i + 1, hlt, ?_, by omega⟩
      exact Weak.of hN rfl rfl rfl frI ⟨frI, frI, frI, frI, ⟨rfl, rfl, rfl⟩, rfl, fun j hj => hrow j⟩
    · have hie : i = L.length := by omega
      subst hie
      rw [← hmg]
      (repeat (first | refine XK.n ?_ | refine XK.a ?_ | refine XK.b ?_)); refine XK.region ?_; refine XL.g ?_
      refine XL.callMA [702] hE rfl rfl rfl rfl trivial (hst) rfl rfl rfl rfl rfl ?_
      refine XL.g ?_; refine XL.fin ?_; (repeat (first | refine XK.n ?_ | refine XK.a ?_ | refine XK.b ?_))
      refine XK.weak (Weak.frozen (k := 702) hN rfl rfl) ?_
      (repeat (first | refine XK.n ?_ | refine XK.a ?_ | refine XK.b ?_))
      (first | refine XK.o ?_ | refine XK.p ?_)
      rfl
  by_cases k1 : p.kind = 1
  · have hk1 := k1
    rw [chgV, if_neg k5, if_neg k2, if_pos k1] at ch
    have hcg : ∀ n m, chgM k p s.holders n m = addM p.new m := fun n m => by unfold chgM; rw [if_neg k5, if_neg k2, if_pos k1]
    (repeat (first | refine XK.n ?_ | refine XK.a ?_ | refine XK.b ?_)); refine XK.region ?_; refine XL.g ?_
    refine XL.callKA hE rfl rfl rfl rfl trivial rfl rfl (ch) ?_
    refine XL.g ?_; refine XL.fin ?_; (repeat (first | refine XK.n ?_ | refine XK.a ?_ | refine XK.b ?_))
    (repeat (first | refine XK.n ?_ | refine XK.a ?_ | refine XK.b ?_)); refine XK.cond rfl (fun h2 => ?_) (fun h2 => ?_) <;> (try simp at h2)
    · have hLp : listP k p = [(k.clauses.length : Int)] := if_pos h2
      rw [hLp] at hL hmg hOld
      (repeat (first | refine XK.n ?_ | refine XK.a ?_ | refine XK.b ?_))
      generalize hLL : [(k.clauses.length : Int)] = L at *
      refine XK.loop (ι := Nat) (fun i => ST.of [(6, .ptr 6 0), (7, .ptr 7 0), (8, .c (.int .i64 0)), (9, .ptr 79 0), (11, .ptr 221 0), (12, .fn (.func 152) [] [.rptr (ptC p)]), (46, intsV L), (47, .c (.int .i64 L.length)), (48, .c (.int .i64 i))]
        [(6, .cells 27 [.c (.int .i64 0), .c (.slice none 0 0), .c (.slice none 0 0), .c (.slice none 0 0), .c (.slice none 0 0), .c (.int .i64 0), .c (.slice none 0 0)]), (7, .cells 45 [.c (.int .i64 0), .c (.slice none 0 0), .c (.slice none 0 0), .c (.slice none 0 0)]), (79, .cells 27 (kC k')), (221, stO s.day s.holders s.used 702), (702, mRow k'.clauses.length (mkTo k p s.holders (padM s.marks) L i))] 2000 70 (fun _ => false))
        (fun i => i ≤ L.length) (fun i => L.length - i) 0 (Nat.zero_le _) (Weak.of hN rfl rfl rfl (by subst hLL; exact ⟨rfl, rfl, rfl, rfl, rfl, rfl, ⟨rfl, rfl, fun i hi => by cases Nat.lt_one_iff.1 hi; rfl⟩, rfl, rfl⟩) frI) fun i hi => ?_
      (repeat (first | refine XK.n ?_ | refine XK.a ?_ | refine XK.b ?_)); refine XK.cond rfl (fun hlt => ?_) (fun hlt => ?_) <;> (try simp at hlt)
      · obtain ⟨hx1, hx2⟩ := hL.rng i hlt
        have hat := hL.at (k := k) (p := p) (hold := s.holders) (m0 := padM s.marks) hlt
        have hOl := hOld i hlt
        obtain ⟨n, hn⟩ := Int.eq_ofNat_of_zero_le hx1
        have fx : L.getD (i : Int).toNat default = (n : Int) := hn
        have hrow := mk_row k p s.holders (padM s.marks) L i n hn
        rw [hn] at hx2 hat hOl
        generalize hmm : mkTo k p s.holders (padM s.marks) L i = mm at *
        have hmn : mm n = padM s.marks n := hat
        have hc := change3_ok p n (mm n)
        rw [← hcg] at hc
        (repeat (first | refine XK.n ?_ | refine XK.a ?_ | refine XK.b ?_))
        rw [fx]
        (repeat (first | refine XK.n ?_ | refine XK.a ?_ | refine XK.b ?_)); refine XK.drawn hm ?_; refine XD.goA hT rfl rfl rfl rfl ?_
        refine XD.callLA hE rfl rfl rfl rfl trivial rfl (hc) rfl ?_
        refine XD.goA hT rfl rfl rfl rfl ?_; refine XD.fin (by kernel_rfl) ?_; (repeat (first | refine XK.n ?_ | refine XK.a ?_ | refine XK.b ?_))
        refine XK.inv ⟨i + 1, hlt, ?_, by omega⟩
        exact Weak.of hN rfl rfl rfl frI ⟨frI, frI, frI, frI, ⟨rfl, rfl, rfl⟩, rfl, fun j hj => hrow j⟩
      · have hie : i = L.length := by omega
        subst hie
        rw [← hmg]
        (repeat (first | refine XK.n ?_ | refine XK.a ?_ | refine XK.b ?_)); refine XK.region ?_; refine XL.g ?_
        refine XL.callMA [702] hE rfl rfl rfl rfl trivial (hst) rfl rfl rfl rfl rfl ?_
        refine XL.g ?_; refine XL.fin ?_; (repeat (first | refine XK.n ?_ | refine XK.a ?_ | refine XK.b ?_))
        refine XK.weak (Weak.frozen (k := 702) hN rfl rfl) ?_
        (repeat (first | refine XK.n ?_ | refine XK.a ?_ | refine XK.b ?_))
        (first | refine XK.o ?_ | refine XK.p ?_)
        rfl
    · exact absurd k1 h2
  · have hk1 : ¬ p.kind = 1 := k1
    rw [chgV, if_neg k5, if_neg k2, if_neg k1] at ch
    have hcg : ∀ n m, chgM k p s.holders n m = voidM m := fun n m => by unfold chgM; rw [if_neg k5, if_neg k2, if_neg k1]
    (repeat (first | refine XK.n ?_ | refine XK.a ?_ | refine XK.b ?_)); refine XK.region ?_; refine XL.g ?_
    refine XL.callKA hE rfl rfl rfl rfl trivial rfl rfl (ch) ?_
    refine XL.g ?_; refine XL.fin ?_; (repeat (first | refine XK.n ?_ | refine XK.a ?_ | refine XK.b ?_))
    (repeat (first | refine XK.n ?_ | refine XK.a ?_ | refine XK.b ?_)); refine XK.cond rfl (fun h2 => ?_) (fun h2 => ?_) <;> (try simp at h2)
    · exact absurd h2 hk1
    have hLp : listP k p = p.clauses := if_neg hk1
    rw [hLp] at hL hmg hOld
    generalize p.clauses = L at *
    (repeat (first | refine XK.n ?_ | refine XK.a ?_ | refine XK.b ?_))
    refine XK.loop (ι := Nat) (fun i => ST.of [(6, .ptr 6 0), (7, .ptr 7 0), (8, .c (.int .i64 0)), (9, .ptr 79 0), (11, .ptr 221 0), (12, .fn (.func 153) [] []), (46, intsV L), (47, .c (.int .i64 L.length)), (48, .c (.int .i64 i))]
      [(6, .cells 27 [.c (.int .i64 0), .c (.slice none 0 0), .c (.slice none 0 0), .c (.slice none 0 0), .c (.slice none 0 0), .c (.int .i64 0), .c (.slice none 0 0)]), (7, .cells 45 [.c (.int .i64 0), .c (.slice none 0 0), .c (.slice none 0 0), .c (.slice none 0 0)]), (79, .cells 27 (kC k')), (221, stO s.day s.holders s.used 702), (702, mRow k'.clauses.length (mkTo k p s.holders (padM s.marks) L i))] 2000 70 (fun _ => false))
      (fun i => i ≤ L.length) (fun i => L.length - i) 0 (Nat.zero_le _) (Weak.of hN rfl rfl rfl frI frI) fun i hi => ?_
    (repeat (first | refine XK.n ?_ | refine XK.a ?_ | refine XK.b ?_)); refine XK.cond rfl (fun hlt => ?_) (fun hlt => ?_) <;> (try simp at hlt)
    · obtain ⟨hx1, hx2⟩ := hL.rng i hlt
      have hat := hL.at (k := k) (p := p) (hold := s.holders) (m0 := padM s.marks) hlt
      have hOl := hOld i hlt
      obtain ⟨n, hn⟩ := Int.eq_ofNat_of_zero_le hx1
      have fx : L.getD (i : Int).toNat default = (n : Int) := hn
      have hrow := mk_row k p s.holders (padM s.marks) L i n hn
      rw [hn] at hx2 hat hOl
      generalize hmm : mkTo k p s.holders (padM s.marks) L i = mm at *
      have hmn : mm n = padM s.marks n := hat
      have hc := change4_ok n (mm n)
      rw [← hcg] at hc
      (repeat (first | refine XK.n ?_ | refine XK.a ?_ | refine XK.b ?_))
      rw [fx]
      (repeat (first | refine XK.n ?_ | refine XK.a ?_ | refine XK.b ?_)); refine XK.drawn hm ?_; refine XD.goA hT rfl rfl rfl rfl ?_
      refine XD.callLA hE rfl rfl rfl rfl trivial rfl (hc) rfl ?_
      refine XD.goA hT rfl rfl rfl rfl ?_; refine XD.fin (by kernel_rfl) ?_; (repeat (first | refine XK.n ?_ | refine XK.a ?_ | refine XK.b ?_))
      refine XK.inv ⟨i + 1, hlt, ?_, by omega⟩
      exact Weak.of hN rfl rfl rfl frI ⟨frI, frI, frI, frI, ⟨rfl, rfl, rfl⟩, rfl, fun j hj => hrow j⟩
    · have hie : i = L.length := by omega
      subst hie
      rw [← hmg]
      (repeat (first | refine XK.n ?_ | refine XK.a ?_ | refine XK.b ?_)); refine XK.region ?_; refine XL.g ?_
      refine XL.callMA [702] hE rfl rfl rfl rfl trivial (hst) rfl rfl rfl rfl rfl ?_
      refine XL.g ?_; refine XL.fin ?_; (repeat (first | refine XK.n ?_ | refine XK.a ?_ | refine XK.b ?_))
      refine XK.weak (Weak.frozen (k := 702) hN rfl rfl) ?_
      (repeat (first | refine XK.n ?_ | refine XK.a ?_ | refine XK.b ?_))
      (first | refine XK.o ?_ | refine XK.p ?_)
      rfl
end
end Go.Proofs.YtlcfoelfcnhenaaGreatDoor
