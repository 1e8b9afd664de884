import Derived.Test.YtlhmgphgnedlkaaGreatZz13
import Derived.Test.YtlhmgphgnedlkaaGreatZz16
section
/- Contracts: package system: states that are handed on. -/
namespace Go.Proofs.YtlhmgphgnedlkaaGreat
open Go.Eng
set_option maxRecDepth 10000
theorem rall {p : Nat → Bool} {n : Nat} : (List.range n).all p = true ↔ ∀ i, i < n → p i = true := by simp [List.all_eq_true]
theorem rall_not {p : Nat → Bool} {n i : Nat} (hi : i < n) (h : p i = false) : (List.range n).all p = false := by
  rw [← Bool.not_eq_true, rall]
  intro h2
  rw [h2 i hi] at h
  cases h
noncomputable def validS (k : K) (s : St) : Bool :=
  if (kValid k).1 ≠ 0 then false
  else if (decide (s.day < 0) || decide (k.days < s.day) || (s.holders.length : Int) != k.holders.length || (s.used.length : Int) != k.acts.length || (s.marks.length : Int) != k.clauses.length) = true then false
  else if s.holders.all (fun h => !(decide (h < 0) || decide (k.parties ≤ h))) = false then false
  else if (List.range s.used.length).all (fun a => !(s.used.getD a default && (acAt k a).kind == 1)) = false then false
  else (List.range s.marks.length).all (fun i => markB k i (s.marks.getD i default) && !rdyB k s.wk.mark i)
theorem validS_ok (k : K) (hk : kW k) (s : St) : Does Tryz.prog 11 [kV k, stV s] (.c (.bool (validS k s))) := by
  refine Does.mk (fun _ => false) TT_ok Tryz.func11 rfl (by kernel_rfl) Tryz.ntmps11 rfl rfl fun E hT hE hN hR => ?_
  have hm := mixO hE
  (repeat (first | refine XK.n ?_ | refine XK.a ?_ | refine XK.b ?_)); refine XK.region ?_; refine XL.g ?_
  refine XL.callLA hE rfl rfl rfl rfl trivial rfl (kValid_ok k hk) rfl ?_
  refine XL.g ?_; refine XL.fin ?_; (repeat (first | refine XK.n ?_ | refine XK.a ?_ | refine XK.b ?_))
  unfold validS
  (repeat (first | refine XK.n ?_ | refine XK.a ?_ | refine XK.b ?_)); refine XK.cond rfl (fun h1 => ?_) (fun h1 => ?_) <;> (try simp at h1)
  · rw [if_pos h1]
    (repeat (first | refine XK.n ?_ | refine XK.a ?_ | refine XK.b ?_))
    (first | refine XK.out rfl rfl rfl ?_ | refine XK.outN rfl rfl rfl ?_)
    rfl
  · rw [if_neg (by simpa using h1)]
    have hF := (show kOk k from ⟨hk, by simpa using h1⟩).facts
    (repeat (first | refine XK.n ?_ | refine XK.a ?_ | refine XK.b ?_)); refine XK.cond rfl (fun h2 => ?_) (fun h2 => ?_)
    · rw [if_pos h2]
      (repeat (first | refine XK.n ?_ | refine XK.a ?_ | refine XK.b ?_))
      (first | refine XK.out rfl rfl rfl ?_ | refine XK.outN rfl rfl rfl ?_)
      rfl
    · rw [if_neg (by rw [h2]; simp)]
      simp only [Bool.or_eq_false_iff, decide_eq_false_iff_not, bne_eq_false_iff_eq] at h2
      obtain ⟨⟨⟨⟨d1, d2⟩, e1⟩, e2⟩, e3⟩ := h2
      have e1 : s.holders.length = k.holders.length := by omega
      have e2 : s.used.length = k.acts.length := by omega
      have e3 : s.marks.length = k.clauses.length := by omega
      have b1 := hF.nh
      have b2 := hF.na
      have b3 := hF.nc
      (repeat (first | refine XK.n ?_ | refine XK.a ?_ | refine XK.b ?_))
      refine XK.loop (ι := Nat) (fun i => ST.of [(2, .ptr 2 0), (3, .ptr 3 0), (57, intsV s.holders), (58, .c (.int .i64 s.holders.length)), (59, .c (.int .i64 i))] [(2, .cells 27 (kC k)), (3, .cells 41 (stC s))] 1000 113 (fun _ => false))
        (fun i => i ≤ s.holders.length ∧ ∀ q, q < i → (fun h : Int => !(decide (h < 0) || decide (k.parties ≤ h))) (s.holders.getD q default) = true) (fun i => s.holders.length - i) 0 ⟨Nat.zero_le _, fun q hq => absurd hq (Nat.not_lt_zero _)⟩
        (Weak.of hN rfl rfl rfl frI frI) fun i hi => ?_
      obtain ⟨hi1, hi2⟩ := hi
      (repeat (first | refine XK.n ?_ | refine XK.a ?_ | refine XK.b ?_)); refine XK.cond rfl (fun hlt => ?_) (fun hlt => ?_) <;> (try simp at hlt)
      · have fh : s.holders.getD (i : Int).toNat default = s.holders.getD i default := rfl
        (repeat (first | refine XK.n ?_ | refine XK.a ?_ | refine XK.b ?_))
        try rw [fh]
        (repeat (first | refine XK.n ?_ | refine XK.a ?_ | refine XK.b ?_)); refine XK.cond rfl (fun hb => ?_) (fun hb => ?_)
        · rw [if_pos (all_not (p := fun h : Int => !(decide (h < 0) || decide (k.parties ≤ h))) hlt (by
            show (!(decide (s.holders.getD i default < 0) || decide (k.parties ≤ s.holders.getD i default))) = false
            rw [show (decide (s.holders.getD i default < 0) || decide (k.parties ≤ s.holders.getD i default)) = true from hb]; rfl))]
          (repeat (first | refine XK.n ?_ | refine XK.a ?_ | refine XK.b ?_))
          (first | refine XK.out rfl rfl rfl ?_ | refine XK.outN rfl rfl rfl ?_)
          rfl
        · (repeat (first | refine XK.n ?_ | refine XK.a ?_ | refine XK.b ?_))
          refine XK.inv ⟨i + 1, ⟨hlt, fun q hq => ?_⟩, (Weak.of hN rfl rfl rfl frI frI), by omega⟩
          by_cases hqi : q = i
          · subst hqi
            show (!(decide (s.holders.getD q default < 0) || decide (k.parties ≤ s.holders.getD q default))) = true
            rw [show (decide (s.holders.getD q default < 0) || decide (k.parties ≤ s.holders.getD q default)) = false from hb]; rfl
          · exact hi2 q (by omega)
      · have hall : s.holders.all (fun h => !(decide (h < 0) || decide (k.parties ≤ h))) = true := all_at.2 fun q hq => hi2 q (by omega)
        rw [if_neg (by rw [hall]; simp)]
        clear hi2 hall
        (repeat (first | refine XK.n ?_ | refine XK.a ?_ | refine XK.b ?_))
        refine XK.loop (ι := Nat) (fun i => ST.of [(2, .ptr 2 0), (3, .ptr 3 0), (73, boolsV s.used), (74, .c (.int .i64 s.used.length)), (75, .c (.int .i64 i))] [(2, .cells 27 (kC k)), (3, .cells 41 (stC s))] 2000 113 (fun _ => false))
          (fun i => i ≤ s.used.length ∧ ∀ q, q < i → (!(s.used.getD q default && (acAt k q).kind == 1)) = true) (fun i => s.used.length - i) 0 ⟨Nat.zero_le _, fun q hq => absurd hq (Nat.not_lt_zero _)⟩
          (Weak.of hN rfl rfl rfl frI frI) fun j hj => ?_
        obtain ⟨hj1, hj2⟩ := hj
        (repeat (first | refine XK.n ?_ | refine XK.a ?_ | refine XK.b ?_)); refine XK.cond rfl (fun hlt2 => ?_) (fun hlt2 => ?_) <;> (try simp at hlt2)
        · have fh : s.used.getD (j : Int).toNat default = s.used.getD j default := rfl
          have fc : k.acts.getD (j : Int).toNat default = acAt k j := rfl
          (repeat (first | refine XK.n ?_ | refine XK.a ?_ | refine XK.b ?_))
          try rw [fh, fc]
          (repeat (first | refine XK.n ?_ | refine XK.a ?_ | refine XK.b ?_)); refine XK.cond rfl (fun hb => ?_) (fun hb => ?_)
          · rw [if_pos (rall_not hlt2 (by rw [show (s.used.getD j default && (acAt k j).kind == 1) = true from hb]; rfl))]
            (repeat (first | refine XK.n ?_ | refine XK.a ?_ | refine XK.b ?_))
            (first | refine XK.out rfl rfl rfl ?_ | refine XK.outN rfl rfl rfl ?_)
            rfl
          · (repeat (first | refine XK.n ?_ | refine XK.a ?_ | refine XK.b ?_))
            refine XK.inv ⟨j + 1, ⟨hlt2, fun q hq => ?_⟩, (Weak.of hN rfl rfl rfl frI frI), by omega⟩
            by_cases hqi : q = j
            · subst hqi
              rw [show (s.used.getD q default && (acAt k q).kind == 1) = false from hb]; rfl
            · exact hj2 q (by omega)
        · have hall : (List.range s.used.length).all (fun a => !(s.used.getD a default && (acAt k a).kind == 1)) = true := rall.2 fun q hq => hj2 q (by omega)
          rw [if_neg (by rw [hall]; simp)]
          clear hj2 hall
          (repeat (first | refine XK.n ?_ | refine XK.a ?_ | refine XK.b ?_))
          refine XK.loop (ι := Nat) (fun i => ST.of [(2, .ptr 2 0), (3, .ptr 3 0), (92, rowL mkC 5 s.marks), (93, .c (.int .i64 s.marks.length)), (94, .c (.int .i64 i))] [(2, .cells 27 (kC k)), (3, .cells 41 (stC s))] 3000 113 (fun _ => false))
            (fun i => i ≤ s.marks.length ∧ ∀ q, q < i → (markB k q (s.marks.getD q default) && !rdyB k s.wk.mark q) = true) (fun i => s.marks.length - i) 0 ⟨Nat.zero_le _, fun q hq => absurd hq (Nat.not_lt_zero _)⟩
            (Weak.of hN rfl rfl rfl frI frI) fun m hm0 => ?_
          obtain ⟨hm1, hm2⟩ := hm0
          (repeat (first | refine XK.n ?_ | refine XK.a ?_ | refine XK.b ?_)); refine XK.cond rfl (fun hlt3 => ?_) (fun hlt3 => ?_) <;> (try simp at hlt3)
          · have hmc : m < k.clauses.length := by omega
            have fh : s.marks.getD (m : Int).toNat default = s.marks.getD m default := rfl
            have v1 := validMark_ok k m hmc (s.marks.getD m default)
            have v2 := sready_ok k hF s e3 m hmc
            (repeat (first | refine XK.n ?_ | refine XK.a ?_ | refine XK.b ?_)); refine XK.drawn hm ?_; refine XD.goA hT rfl rfl rfl rfl ?_
            try rw [fh]
            refine XD.callLA hE rfl rfl rfl rfl trivial rfl (v1) rfl ?_
            refine XD.goA hT rfl rfl rfl rfl ?_
            refine XD.callGA hE rfl rfl rfl rfl rfl rfl rfl rfl rfl (v2) rfl ?_
            refine XD.goA hT rfl rfl rfl rfl ?_; refine XD.fin (by kernel_rfl) ?_; (repeat (first | refine XK.n ?_ | refine XK.a ?_ | refine XK.b ?_))
            (repeat (first | refine XK.n ?_ | refine XK.a ?_ | refine XK.b ?_)); refine XK.cond rfl (fun hb => ?_) (fun hb => ?_)
            · have hb : (!markB k m (s.marks.getD m default) || rdyB k s.wk.mark m) = true := hb
              rw [rall_not hlt3 (by revert hb; cases markB k m (s.marks.getD m default) <;> cases rdyB k s.wk.mark m <;> simp)]
              (repeat (first | refine XK.n ?_ | refine XK.a ?_ | refine XK.b ?_))
              (first | refine XK.out rfl rfl rfl ?_ | refine XK.outN rfl rfl rfl ?_)
              rfl
            · have hb : (!markB k m (s.marks.getD m default) || rdyB k s.wk.mark m) = false := hb
              (repeat (first | refine XK.n ?_ | refine XK.a ?_ | refine XK.b ?_))
              refine XK.inv ⟨m + 1, ⟨hlt3, fun q hq => ?_⟩, (Weak.of hN rfl rfl rfl frI frI), by omega⟩
              by_cases hqi : q = m
              · subst hqi
                revert hb; cases markB k q (s.marks.getD q default) <;> cases rdyB k s.wk.mark q <;> simp
              · exact hm2 q (by omega)
          · rw [show (List.range s.marks.length).all (fun i => markB k i (s.marks.getD i default) && !rdyB k s.wk.mark i) = true from rall.2 fun q hq => hm2 q (by omega)]
            (repeat (first | refine XK.n ?_ | refine XK.a ?_ | refine XK.b ?_))
            (first | refine XK.out rfl rfl rfl ?_ | refine XK.outN rfl rfl rfl ?_)
            rfl
theorem validS_len {k : K} {s : St} (h : validS k s = true) : (kValid k).1 = 0 ∧ s.holders.length = k.holders.length ∧ s.used.length = k.acts.length ∧ s.marks.length = k.clauses.length ∧ (0 ≤ s.day ∧ s.day ≤ k.days) ∧
    (∀ i, i < s.holders.length → 0 ≤ s.holders.getD i default ∧ s.holders.getD i default < k.parties) ∧ (∀ i, i < s.used.length → (!(s.used.getD i default && (acAt k i).kind == 1)) = true) ∧ ∀ i, i < s.marks.length → (markB k i (s.marks.getD i default) && !rdyB k s.wk.mark i) = true := by
  unfold validS at h
  split at h
  · cases h
  · rename_i h1
    split at h
    · cases h
    · rename_i h2
      simp only [Bool.or_eq_true, decide_eq_true_eq, bne_iff_ne, ne_eq, not_or, Decidable.not_not] at h2
      split at h
      · cases h
      · rename_i h3
        split at h
        · cases h
        · rename_i h4
          have h4 := by simpa only [Bool.not_eq_false] using h4
          have h3 := all_at.1 (by simpa using h3 : s.holders.all (fun h => !(decide (h < 0) || decide (k.parties ≤ h))) = true)
          refine ⟨by simpa using h1, by omega, by omega, by omega, by omega, fun i hi => ?_, fun i hi => rall.1 h4 i hi, fun i hi => rall.1 h i hi⟩
          have := h3 i hi
          simp only [Bool.not_eq_true', Bool.or_eq_false_iff, decide_eq_false_iff_not] at this
          omega
def eqMk (a b : Mk) : Bool := a.status == b.status && (a.left == b.left && (a.got == b.got && (a.bearer == b.bearer && a.paused == b.paused)))
theorem eqMk_iff {a b : Mk} : eqMk a b = true ↔ a = b := by
  cases a; cases b; simp [eqMk]
end Go.Proofs.YtlhmgphgnedlkaaGreat
end
section
/- Contracts: package system: the small changes of a state. -/
namespace Go.Proofs.YtlhmgphgnedlkaaGreat
open Go.Eng
set_option maxRecDepth 10000
def wO (k : K) (w : Wk) (h u m : Nat) : Ob := .cells 133 [.c (.int .i64 k.parties), intsV k.holders, unitsV k.units, actsV k.acts, clsV k.clauses, .c (.int .i64 k.days), intsV k.off,
  .c (.int .i64 w.day), .vec h 0, .vec u 0, .vec m 0]
def wOs (k : K) (w : Wk) : List Ob := [wO k w 1 2 3, wHold k w, wUsed k w, wMark k w]
def wN (k : K) (w : Wk) : List (Nat × Ob) := [(0, wO k w 1 2 3), (1, wHold k w), (2, wUsed k w), (3, wMark k w)]
theorem wend_ok (k : K) (w : Wk) (i : Nat) (s : Int) (hi : i < k.clauses.length) : DoesM Tryz.prog 125 [.ptr 0 0, .c (.int .i64 i), .c (.int .i64 s)] (wOs k w) (.tup []) (wOs k (w.upM i (endM (w.mark i) s))) := by
  refine DoesM.mk (fun _ => false) 100 TT_ok Tryz.func125 rfl (by kernel_rfl) Tryz.ntmps125 rfl rfl rfl fun E hT hE hN hR => ?_
  have hm := mixO hE
  (repeat (first | refine XK.n ?_ | refine XK.a ?_ | refine XK.b ?_))
  (first | refine XK.outR [0, 1, 2, 3] hN rfl rfl rfl ?_ rfl rfl ?_ | refine XK.outRN [0, 1, 2, 3] hN rfl rfl rfl ?_ rfl rfl ?_)
  · (repeat' (first | exact rfl | exact AvIs.refl _ | exact trivial | exact fun _ _ => rfl | exact fun _ _ => ⟨rfl, AvIs.refl _⟩ | exact fun _ hi => absurd hi (Nat.not_lt_zero _) | (intro i hi; cases Nat.lt_one_iff.1 hi; rfl) | (intro j hj; by_cases hji : j = (i); (· subst hji; simp [setRowF, setL, mkC, Wk.upM, endM]; done); (· simp [setRowF, beq_false hji, Wk.upM, endM, hji, lt_succ_ne hji]; done)) | refine ⟨?_, ?_⟩))
  · (repeat' (first | exact rfl | exact AvIs.refl _ | exact trivial | exact fun _ _ => rfl | exact fun _ _ => ⟨rfl, AvIs.refl _⟩ | refine ⟨?_, ?_⟩))
theorem done_ok (k : K) (w : Wk) (i : Nat) (hi : i < k.clauses.length) : DoesM Tryz.prog 92 [.ptr 0 0, .c (.int .i64 i)] (wOs k w) (.tup []) (wOs k (w.upM i (endM (w.mark i) 3))) := by
  refine DoesM.mk (fun _ => false) 100 TT_ok Tryz.func92 rfl (by kernel_rfl) Tryz.ntmps92 rfl rfl rfl fun E hT hE hN hR => ?_
  have hm := mixO hE
  (repeat (first | refine XK.n ?_ | refine XK.a ?_ | refine XK.b ?_)); refine XK.region ?_; refine XL.g ?_
  refine XL.callMA [0, 1, 2, 3] hE rfl rfl rfl rfl trivial (wend_ok k w i 3 hi) rfl rfl rfl rfl rfl ?_
  refine XL.g ?_; refine XL.fin ?_; (repeat (first | refine XK.n ?_ | refine XK.a ?_ | refine XK.b ?_))
  (first | refine XK.outR [0, 1, 2, 3] hN rfl rfl rfl ?_ rfl rfl ?_ | refine XK.outRN [0, 1, 2, 3] hN rfl rfl rfl ?_ rfl rfl ?_)
  · (repeat' (first | exact rfl | exact AvIs.refl _ | exact trivial | exact fun _ _ => rfl | exact fun _ _ => ⟨rfl, AvIs.refl _⟩ | refine ⟨?_, ?_⟩))
  · (repeat' (first | exact rfl | exact AvIs.refl _ | exact trivial | exact fun _ _ => rfl | exact fun _ _ => ⟨rfl, AvIs.refl _⟩ | refine ⟨?_, ?_⟩))
theorem lapse_ok (k : K) (w : Wk) (i : Nat) (hi : i < k.clauses.length) : DoesM Tryz.prog 93 [.ptr 0 0, .c (.int .i64 i)] (wOs k w) (.tup []) (wOs k (w.upM i (endM (w.mark i) 5))) := by
  refine DoesM.mk (fun _ => false) 100 TT_ok Tryz.func93 rfl (by kernel_rfl) Tryz.ntmps93 rfl rfl rfl fun E hT hE hN hR => ?_
  have hm := mixO hE
  (repeat (first | refine XK.n ?_ | refine XK.a ?_ | refine XK.b ?_)); refine XK.region ?_; refine XL.g ?_
  refine XL.callMA [0, 1, 2, 3] hE rfl rfl rfl rfl trivial (wend_ok k w i 5 hi) rfl rfl rfl rfl rfl ?_
  refine XL.g ?_; refine XL.fin ?_; (repeat (first | refine XK.n ?_ | refine XK.a ?_ | refine XK.b ?_))
  (first | refine XK.outR [0, 1, 2, 3] hN rfl rfl rfl ?_ rfl rfl ?_ | refine XK.outRN [0, 1, 2, 3] hN rfl rfl rfl ?_ rfl rfl ?_)
  · (repeat' (first | exact rfl | exact AvIs.refl _ | exact trivial | exact fun _ _ => rfl | exact fun _ _ => ⟨rfl, AvIs.refl _⟩ | refine ⟨?_, ?_⟩))
  · (repeat' (first | exact rfl | exact AvIs.refl _ | exact trivial | exact fun _ _ => rfl | exact fun _ _ => ⟨rfl, AvIs.refl _⟩ | refine ⟨?_, ?_⟩))
theorem upM_same (w : Wk) (i : Nat) (m : Mk) : (w.upM i m).mark i = m := by simp [Wk.upM]
theorem upM_upM (w : Wk) (i : Nat) (m m' : Mk) : (w.upM i m).upM i m' = w.upM i m' := by
  unfold Wk.upM
  congr 1
  funext j
  by_cases h : j = i <;> simp [h]
theorem upM_self (w : Wk) (i : Nat) : w.upM i (w.mark i) = w := by
  unfold Wk.upM
  have : (fun j => if j = i then w.mark i else w.mark j) = w.mark := by
    funext j
    by_cases h : j = i
    · subst h; simp
    · simp [h]
  rw [this]
theorem violate_ok (k : K) (w : Wk) (i : Nat) (hi : i < k.clauses.length) : DoesM Tryz.prog 97 [.ptr 0 0, .c (.int .i64 i)] (wOs k w) (.tup []) (wOs k (w.upM i (violM (w.mark i)))) := by
  refine DoesM.mk (fun _ => false) 100 TT_ok Tryz.func97 rfl (by kernel_rfl) Tryz.ntmps97 rfl rfl rfl fun E hT hE hN hR => ?_
  have hm := mixO hE
  have fm : w.mark (i : Int).toNat = w.mark i := rfl
  unfold violM
  (repeat (first | refine XK.n ?_ | refine XK.a ?_ | refine XK.b ?_)); refine XK.cond rfl (fun h => ?_) (fun h => ?_) <;> (try simp at h)
  · rw [if_neg (show ¬ (w.mark i).paused = true by rw [show (w.mark i).paused = false from h]; simp)]
    (repeat (first | refine XK.n ?_ | refine XK.a ?_ | refine XK.b ?_))
    (repeat (first | refine XK.n ?_ | refine XK.a ?_ | refine XK.b ?_)); refine XK.region ?_; refine XL.g ?_
    refine XL.callMA [0, 1, 2, 3] hE rfl rfl rfl rfl trivial (wend_ok k w i 4 hi) rfl rfl rfl rfl rfl ?_
    refine XL.g ?_; refine XL.fin ?_; (repeat (first | refine XK.n ?_ | refine XK.a ?_ | refine XK.b ?_))
    (first | refine XK.outR [0, 1, 2, 3] hN rfl rfl rfl ?_ rfl rfl ?_ | refine XK.outRN [0, 1, 2, 3] hN rfl rfl rfl ?_ rfl rfl ?_)
    · (repeat' (first | exact rfl | exact AvIs.refl _ | exact trivial | exact fun _ _ => rfl | exact fun _ _ => ⟨rfl, AvIs.refl _⟩ | refine ⟨?_, ?_⟩))
    · (repeat' (first | exact rfl | exact AvIs.refl _ | exact trivial | exact fun _ _ => rfl | exact fun _ _ => ⟨rfl, AvIs.refl _⟩ | refine ⟨?_, ?_⟩))
  · rw [if_pos (show (w.mark i).paused = true from h), upM_self]
    (repeat (first | refine XK.n ?_ | refine XK.a ?_ | refine XK.b ?_))
    (first | refine XK.outR [0, 1, 2, 3] hN rfl rfl rfl ?_ rfl rfl ?_ | refine XK.outRN [0, 1, 2, 3] hN rfl rfl rfl ?_ rfl rfl ?_)
    · (repeat' (first | exact rfl | exact AvIs.refl _ | exact trivial | exact fun _ _ => rfl | exact fun _ _ => ⟨rfl, AvIs.refl _⟩ | refine ⟨?_, ?_⟩))
    · (repeat' (first | exact rfl | exact AvIs.refl _ | exact trivial | exact fun _ _ => rfl | exact fun _ _ => ⟨rfl, AvIs.refl _⟩ | refine ⟨?_, ?_⟩))
theorem perform_ok (k : K) (hk : KFacts k) (w : Wk) (i : Nat) (hi : i < k.clauses.length) (hg : 0 ≤ (w.mark i).got ∧ (w.mark i).got ≤ 1000) : DoesM Tryz.prog 96 [.ptr 0 0, .c (.int .i64 i)] (wOs k w) (.tup []) (wOs k (w.upM i (performM (clAt k i) (w.mark i)))) := by
  refine DoesM.mk (fun _ => false) 100 TT_ok Tryz.func96 rfl (by kernel_rfl) Tryz.ntmps96 rfl rfl rfl fun E hT hE hN hR => ?_
  have hm := mixO hE
  have fm : w.mark (i : Int).toNat = w.mark i := rfl
  have fc : k.clauses.getD (i : Int).toNat default = clAt k i := rfl
  have f2 : (w.upM i (moreM (w.mark i))).mark (i : Int).toNat = moreM (w.mark i) := upM_same w i _
  unfold performM
  (repeat (first | refine XK.n ?_ | refine XK.a ?_ | refine XK.b ?_))
  refine XK.weak (Weak.of (L := [(0, .ptr 0 0), (1, .c (.int .i64 i))]) (O := wN k (w.upM i (moreM (w.mark i)))) (nx := 1000) (nt := 38) (md := fun _ => false) hN rfl rfl rfl frI (by (repeat' (first | exact rfl | exact AvIs.refl _ | exact trivial | exact fun _ _ => rfl | exact fun _ _ => ⟨rfl, AvIs.refl _⟩ | exact fun _ hi => absurd hi (Nat.not_lt_zero _) | (intro i hi; cases Nat.lt_one_iff.1 hi; rfl) | (intro j hj; by_cases hji : j = (i); (· subst hji; simp [setRowF, setL, mkC, Wk.upM, moreM]; done); (· simp [setRowF, beq_false hji, Wk.upM, moreM, hji, lt_succ_ne hji]; done)) | refine ⟨?_, ?_⟩)))) ?_
  (repeat (first | refine XK.n ?_ | refine XK.a ?_ | refine XK.b ?_))
  rw [f2, fc]
  (repeat (first | refine XK.n ?_ | refine XK.a ?_ | refine XK.b ?_)); refine XK.cond rfl (fun h => ?_) (fun h => ?_) <;> (try simp at h)
  · have h : (w.mark i).got + 1 = (clAt k i).need := h
    rw [if_pos h]
    (repeat (first | refine XK.n ?_ | refine XK.a ?_ | refine XK.b ?_))
    (repeat (first | refine XK.n ?_ | refine XK.a ?_ | refine XK.b ?_)); refine XK.region ?_; refine XL.g ?_
    refine XL.callMA [0, 1, 2, 3] hE rfl rfl rfl rfl trivial (wend_ok k (w.upM i (moreM (w.mark i))) i 3 hi) rfl rfl rfl rfl rfl ?_
    refine XL.g ?_; refine XL.fin ?_; (repeat (first | refine XK.n ?_ | refine XK.a ?_ | refine XK.b ?_))
    rw [upM_same, upM_upM]
    (first | refine XK.outR [0, 1, 2, 3] hN rfl rfl rfl ?_ rfl rfl ?_ | refine XK.outRN [0, 1, 2, 3] hN rfl rfl rfl ?_ rfl rfl ?_)
    · (repeat' (first | exact rfl | exact AvIs.refl _ | exact trivial | exact fun _ _ => rfl | exact fun _ _ => ⟨rfl, AvIs.refl _⟩ | refine ⟨?_, ?_⟩))
    · (repeat' (first | exact rfl | exact AvIs.refl _ | exact trivial | exact fun _ _ => rfl | exact fun _ _ => ⟨rfl, AvIs.refl _⟩ | refine ⟨?_, ?_⟩))
  · have h : ¬ (w.mark i).got + 1 = (clAt k i).need := h
    rw [if_neg h]
    (repeat (first | refine XK.n ?_ | refine XK.a ?_ | refine XK.b ?_))
    (first | refine XK.outR [0, 1, 2, 3] hN rfl rfl rfl ?_ rfl rfl ?_ | refine XK.outRN [0, 1, 2, 3] hN rfl rfl rfl ?_ rfl rfl ?_)
    · (repeat' (first | exact rfl | exact AvIs.refl _ | exact trivial | exact fun _ _ => rfl | exact fun _ _ => ⟨rfl, AvIs.refl _⟩ | refine ⟨?_, ?_⟩))
    · (repeat' (first | exact rfl | exact AvIs.refl _ | exact trivial | exact fun _ _ => rfl | exact fun _ _ => ⟨rfl, AvIs.refl _⟩ | refine ⟨?_, ?_⟩))
theorem expire_ok (k : K) (hk : KFacts k) (w : Wk) (i : Nat) (hi : i < k.clauses.length) : DoesM Tryz.prog 91 [.ptr 0 0, .c (.int .i64 i)] (wOs k w) (.tup []) (wOs k (w.upM i (expM (clAt k i) (w.mark i)))) := by
  refine DoesM.mk (fun _ => false) 100 TT_ok Tryz.func91 rfl (by kernel_rfl) Tryz.ntmps91 rfl rfl rfl fun E hT hE hN hR => ?_
  have hm := mixO hE
  have fm : w.mark (i : Int).toNat = w.mark i := rfl
  have fc : k.clauses.getD (i : Int).toNat default = clAt k i := rfl
  unfold expM
  (repeat (first | refine XK.n ?_ | refine XK.a ?_ | refine XK.b ?_))
  rw [fm, fc]
  (repeat (first | refine XK.n ?_ | refine XK.a ?_ | refine XK.b ?_)); refine XK.cond rfl (fun h => ?_) (fun h => ?_) <;> (try simp at h)
  · rw [if_pos h]
    (repeat (first | refine XK.n ?_ | refine XK.a ?_ | refine XK.b ?_))
    (first | refine XK.outR [0, 1, 2, 3] hN rfl rfl rfl ?_ rfl rfl ?_ | refine XK.outRN [0, 1, 2, 3] hN rfl rfl rfl ?_ rfl rfl ?_)
    · (repeat' (first | exact rfl | exact AvIs.refl _ | exact trivial | exact fun _ _ => rfl | exact fun _ _ => ⟨rfl, AvIs.refl _⟩ | exact fun _ hi => absurd hi (Nat.not_lt_zero _) | (intro i hi; cases Nat.lt_one_iff.1 hi; rfl) | (intro j hj; by_cases hji : j = (i); (· subst hji; simp [setRowF, setL, mkC, Wk.upM, clAt]; done); (· simp [setRowF, beq_false hji, Wk.upM, clAt, hji, lt_succ_ne hji]; done)) | refine ⟨?_, ?_⟩))
    · (repeat' (first | exact rfl | exact AvIs.refl _ | exact trivial | exact fun _ _ => rfl | exact fun _ _ => ⟨rfl, AvIs.refl _⟩ | refine ⟨?_, ?_⟩))
  · rw [if_neg (by simpa using h)]
    (repeat (first | refine XK.n ?_ | refine XK.a ?_ | refine XK.b ?_))
    (repeat (first | refine XK.n ?_ | refine XK.a ?_ | refine XK.b ?_)); refine XK.region ?_; refine XL.g ?_
    refine XL.callMA [0, 1, 2, 3] hE rfl rfl rfl rfl trivial (wend_ok k w i 4 hi) rfl rfl rfl rfl rfl ?_
    refine XL.g ?_; refine XL.fin ?_; (repeat (first | refine XK.n ?_ | refine XK.a ?_ | refine XK.b ?_))
    (first | refine XK.outR [0, 1, 2, 3] hN rfl rfl rfl ?_ rfl rfl ?_ | refine XK.outRN [0, 1, 2, 3] hN rfl rfl rfl ?_ rfl rfl ?_)
    · (repeat' (first | exact rfl | exact AvIs.refl _ | exact trivial | exact fun _ _ => rfl | exact fun _ _ => ⟨rfl, AvIs.refl _⟩ | refine ⟨?_, ?_⟩))
    · (repeat' (first | exact rfl | exact AvIs.refl _ | exact trivial | exact fun _ _ => rfl | exact fun _ _ => ⟨rfl, AvIs.refl _⟩ | refine ⟨?_, ?_⟩))
end Go.Proofs.YtlhmgphgnedlkaaGreat
end
section
/- Contracts: package system: start. -/
namespace Go.Proofs.YtlhmgphgnedlkaaGreat
open Go.Eng
set_option maxRecDepth 10000
theorem pass_hold {k : K} {w : Wk} {n : Nat} (h : n ≤ k.clauses.length) : (passTo k w n).1.hold = w.hold := (pass_rel n h).hold
theorem wstart_ok (k : K) (hk : KFacts k) (w : Wk) : DoesM Tryz.prog 60 [.ptr 0 0] (wOs k w) (.tup []) (wOs k (startW k w)) := by
  refine DoesM.mk (fun _ => false) 100 TT_ok Tryz.func60 rfl (by kernel_rfl) Tryz.ntmps60 rfl rfl rfl fun E hT hE hN hR => ?_
  have hm := mixO hE
  have hnc := hk.nc
  (repeat (first | refine XK.n ?_ | refine XK.a ?_ | refine XK.b ?_))
  refine XK.loop (ι := Nat × Wk × Bool) (fun q => ST.of [(0, .ptr 0 0), (2, .c (.bool q.2.2))] (wN k q.2.1) 1000 53 (fun _ => false))
    (fun q => (q.2.2 = true → startN k q.1 q.2.1 = startW k w ∧ idleN k q.2.1.mark < q.1) ∧ (q.2.2 = false → q.2.1 = startW k w)) (fun q => if q.2.2 = true then q.1 + 1 else 0) (idleN k w.mark + 1, w, true)
    ⟨fun _ => ⟨rfl, Nat.lt_succ_self _⟩, fun h => nomatch h⟩
    (Weak.of hN rfl rfl rfl frI frI) fun q hq => ?_
  obtain ⟨f, w1, b⟩ := q
  obtain ⟨g1, g2⟩ := hq
  dsimp only at g1 g2
  dsimp only
  (repeat (first | refine XK.n ?_ | refine XK.a ?_ | refine XK.b ?_)); refine XK.cond rfl (fun hb => ?_) (fun hb => ?_)
  · have hb : b = true := hb
    subst hb
    obtain ⟨g1, g3⟩ := g1 rfl
    clear g2
    obtain ⟨f, rfl⟩ : ∃ f', f = f' + 1 := ⟨f - 1, by omega⟩
    (repeat (first | refine XK.n ?_ | refine XK.a ?_ | refine XK.b ?_))
    refine XK.loop (ι := Nat) (fun i => ST.of [(0, .ptr 0 0), (2, .c (.bool (passTo k w1 i).2)), (11, clsV k.clauses), (12, .c (.int .i64 k.clauses.length)), (13, .c (.int .i64 i))] (wN k (passTo k w1 i).1) 2000 53 (fun _ => false))
      (fun i => i ≤ k.clauses.length) (fun i => k.clauses.length - i) 0 (Nat.zero_le _)
      (Weak.of hN rfl rfl rfl frI frI) fun i hi => ?_
    (repeat (first | refine XK.n ?_ | refine XK.a ?_ | refine XK.b ?_)); refine XK.cond rfl (fun hlt => ?_) (fun hlt => ?_) <;> (try simp at hlt)
    · have fc : k.clauses.getD (i : Int).toNat default = clAt k i := rfl
      have hkf := kindW (hk.clB hlt).2.2.1
      have hp : passTo k w1 (i + 1) = if rdyB k (passTo k w1 i).1.mark i = true then ((passTo k w1 i).1.upM i (liveM k (passTo k w1 i).1.hold i), true) else passTo k w1 i := rfl
      generalize passTo k w1 i = p at *
      obtain ⟨w2, b2⟩ := p
      dsimp only at hp
      dsimp only
      (repeat (first | refine XK.n ?_ | refine XK.a ?_ | refine XK.b ?_))
      have hr := readyM_ok k hk w2 i hlt
      have hrt := fun h => (rdyB_true (k := k) (mk := w2.mark) (i := i) h).1
      generalize hrb : rdyB k w2.mark i = rb at *
      refine XK.weak (Weak.of (L := [(0, .ptr 0 0), (2, .c (.bool b2)), (3, .c (.int .i64 i)), (4, .ptr 2057 0), (11, clsV k.clauses), (12, .c (.int .i64 k.clauses.length)), (13, .c (.int .i64 i))]) (O := (2057, .cells 48 (clC (clAt k i))) :: wN k w2) (nx := 3000) (nt := 53) (md := fun _ => false) hN rfl rfl rfl frI frI) ?_
      (repeat (first | refine XK.n ?_ | refine XK.a ?_ | refine XK.b ?_)); refine XK.drawn hm ?_; refine XD.goA hT rfl rfl rfl rfl ?_
      refine XD.callMA [1, 2, 3] hE rfl rfl rfl rfl trivial (hr) rfl rfl rfl rfl rfl ?_
      refine XD.goA hT rfl rfl rfl rfl ?_; refine XD.fin (by kernel_rfl) ?_; (repeat (first | refine XK.n ?_ | refine XK.a ?_ | refine XK.b ?_))
      (repeat (first | refine XK.n ?_ | refine XK.a ?_ | refine XK.b ?_)); refine XK.cond rfl (fun h1 => ?_) (fun h1 => ?_)
      · have h1 : rb = false := by simpa using h1
        subst h1
        rw [if_neg (by simp)] at hp
        (repeat (first | refine XK.n ?_ | refine XK.a ?_ | refine XK.b ?_))
        refine XK.inv ⟨i + 1, hlt, ?_, by omega⟩
        rw [hp]
        exact (Weak.of hN rfl rfl rfl frI frI)
      · have h1 : rb = true := by simpa using h1
        subst h1
        rw [if_pos rfl] at hp
        have hb := hk.clB hlt
        (repeat (first | refine XK.n ?_ | refine XK.a ?_ | refine XK.b ?_)); refine XK.join (ST.of [(0, .ptr 0 0), (2, .c (.bool b2)), (3, .c (.int .i64 i)), (4, .ptr 2057 0), (5, .c (.int .i64 (liveM k w2.hold i).bearer)), (11, clsV k.clauses), (12, .c (.int .i64 k.clauses.length)), (13, .c (.int .i64 i))] ((2057, .cells 48 (clC (clAt k i))) :: wN k w2) 4000 53 (fun _ => false)) rfl (fun h3 => ?_) (fun h3 => ?_) ?_
        · have h3 : (clAt k i).kind ≠ 4 := by simpa using h3
          have hro : 0 ≤ (clAt k i).role ∧ (clAt k i).role < k.holders.length := by
            rcases hkf with h | h
            · exact absurd h.1 h3
            · exact h.1
          have e : (liveM k w2.hold i).bearer = w2.hold (clAt k i).role.toNat := by simp [liveM, h3]
          rw [e]
          (repeat (first | refine XK.n ?_ | refine XK.a ?_ | refine XK.b ?_))
          exact XK.inv (Weak.of hN rfl rfl rfl frI frI)
        · have h3 : (clAt k i).kind = 4 := by simpa using h3
          have e : (liveM k w2.hold i).bearer = -1 := by simp [liveM, h3]
          rw [e]
          (repeat (first | refine XK.n ?_ | refine XK.a ?_ | refine XK.b ?_))
          exact XK.inv (Weak.of hN rfl rfl rfl frI frI)
        (repeat (first | refine XK.n ?_ | refine XK.a ?_ | refine XK.b ?_))
        refine XK.inv ⟨i + 1, hlt, ?_, by omega⟩
        rw [hp]
        exact (Weak.of hN rfl rfl rfl frI (by (repeat' (first | exact rfl | exact AvIs.refl _ | exact trivial | exact fun _ _ => rfl | exact fun _ _ => ⟨rfl, AvIs.refl _⟩ | exact fun _ hi => absurd hi (Nat.not_lt_zero _) | (intro i hi; cases Nat.lt_one_iff.1 hi; rfl) | (intro j hj; by_cases hji : j = (i); (· subst hji; simp [setRowF, setL, mkC, Wk.upM, liveM]; done); (· simp [setRowF, beq_false hji, Wk.upM, liveM, hji, lt_succ_ne hji]; done)) | refine ⟨?_, ?_⟩))))
    · have hie : i = k.clauses.length := by omega
      subst hie
      have hl := fun h => pass_less (k := k) (w := w1) k.clauses.length (Nat.le_refl _) h
      have hn := fun h => pass_none (k := k) (w := w1) k.clauses.length h
      rw [startN] at g1
      generalize passTo k w1 k.clauses.length = p at *
      obtain ⟨w2, b2⟩ := p
      dsimp only at hl hn g1
      dsimp only
      (repeat (first | refine XK.n ?_ | refine XK.a ?_ | refine XK.b ?_))
      refine XK.inv ⟨(f, w2, b2), ⟨fun h => ?_, fun h => ?_⟩, (Weak.of hN rfl rfl rfl frI frI), ?_⟩
      · have h : b2 = true := h
        rw [if_pos h] at g1
        have := hl h
        exact ⟨g1, by show idleN k w2.mark < f; omega⟩
      · have h : b2 = false := h
        rw [if_neg (by rw [h]; simp)] at g1
        have := congrArg Prod.fst (hn h).1
        show w2 = _
        rw [← g1]
        exact this
      · dsimp only
        cases b2 <;> simp
  · have hb : b = false := hb
    subst hb
    have g2 := g2 rfl
    subst g2
    (repeat (first | refine XK.n ?_ | refine XK.a ?_ | refine XK.b ?_))
    (first | refine XK.outR [0, 1, 2, 3] hN rfl rfl rfl ?_ rfl rfl ?_ | refine XK.outRN [0, 1, 2, 3] hN rfl rfl rfl ?_ rfl rfl ?_)
    · (repeat' (first | exact rfl | exact AvIs.refl _ | exact trivial | exact fun _ _ => rfl | exact fun _ _ => ⟨rfl, AvIs.refl _⟩ | refine ⟨?_, ?_⟩))
    · (repeat' (first | exact rfl | exact AvIs.refl _ | exact trivial | exact fun _ _ => rfl | exact fun _ _ => ⟨rfl, AvIs.refl _⟩ | refine ⟨?_, ?_⟩))
end Go.Proofs.YtlhmgphgnedlkaaGreat
end
section
/- Contracts: package system: the clauses that run, one after the other. -/
namespace Go.Proofs.YtlhmgphgnedlkaaGreat
open Go.Eng
set_option maxRecDepth 10000
theorem wrunning_ok (k : K) (w : Wk) : DoesM Tryz.prog 95 [.ptr 0 0] (wOs k w) (.fn (.func 128) [] [.ptr 4 0]) (wOs k w ++ [.cells 131 [.ptr 0 0]]) := by
  refine DoesM.mk (fun _ => false) 100 TT_ok Tryz.func95 rfl (by kernel_rfl) Tryz.ntmps95 rfl rfl rfl fun E hT hE hN hR => ?_
  have hm := mixO hE
  (repeat (first | refine XK.n ?_ | refine XK.a ?_ | refine XK.b ?_))
  (first | refine XK.outR [0, 1, 2, 3, 101] hN rfl rfl rfl ?_ rfl rfl ?_ | refine XK.outRN [0, 1, 2, 3, 101] hN rfl rfl rfl ?_ rfl rfl ?_)
  · (repeat' (first | exact rfl | exact AvIs.refl _ | exact trivial | exact fun _ _ => rfl | exact fun _ _ => ⟨rfl, AvIs.refl _⟩ | refine ⟨?_, ?_⟩))
  · (repeat' (first | exact rfl | exact AvIs.refl _ | exact trivial | exact fun _ _ => rfl | exact fun _ _ => ⟨rfl, AvIs.refl _⟩ | refine ⟨?_, ?_⟩))
def csS (k : K) (a : Nat) : List AV := frL 66 [(2, .ptr 6 0), (4, .rptr (actC (acAt k a)))]
def itS (k : K) (a : Nat) (w : Wk) : List Ob := [.cells 131 [.ptr 2 0], wO k w 3 4 5, wHold k w, wUsed k w, wMark k w, .cells 131 [.ptr 2 0]]
def itNS (k : K) (a : Nat) (w : Wk) : List (Nat × Ob) := [(1, .cells 131 [.ptr 2 0]), (2, wO k w 3 4 5), (3, wHold k w), (4, wUsed k w), (5, wMark k w), (6, .cells 131 [.ptr 2 0])]
theorem runItS_ok (k : K) (a : Nat) (hk : KFacts k) (w : Wk) (f : Nat → Mk → Mk) (L b : Nat) (rc : Array Value → Obj)
    (hY : ∀ i, i < k.clauses.length → runsM (w.mark i) = true → DoesR Tryz.prog L [.c (.int .i64 i)] (.lrec rc b (csS k a) :: itS k a (mapRun f w i)) (.c (.bool true)) (.lrec rc b (csS k a) :: itS k a (mapRun f w (i + 1)))) :
    DoesM Tryz.prog 128 [.fn (.yield L) [] [], .ptr 1 0] (.lrec rc b (csS k a) :: itS k a w) (.tup []) (.lrec rc b (csS k a) :: itS k a (mapRun f w k.clauses.length)) := by
  refine DoesM.mk (fun _ => false) 100 TT_ok Tryz.func128 rfl (by kernel_rfl) Tryz.ntmps128 rfl rfl rfl fun E hT hE hN hR => ?_
  have hm := mixO hE
  have hnc := hk.nc
  (repeat (first | refine XK.n ?_ | refine XK.a ?_ | refine XK.b ?_))
  refine XK.loop (ι := Nat) (fun i => ST.of [(0, .fn (.yield L) [] []), (1, .ptr 1 0), (9, .c (.int .i64 k.clauses.length)), (10, .c (.int .i64 i))] ((0, .lrec rc b (csS k a)) :: itNS k a (mapRun f w i)) 1000 29 (fun _ => false))
    (fun i => i ≤ k.clauses.length) (fun i => k.clauses.length - i) 0 (Nat.zero_le _)
    (Weak.of hN rfl rfl rfl frI (by simp only [mapRun_zero]; (repeat' (first | exact rfl | exact AvIs.refl _ | exact trivial | exact fun _ _ => rfl | exact fun _ _ => ⟨rfl, AvIs.refl _⟩ | refine ⟨?_, ?_⟩)))) fun i hi => ?_
  (repeat (first | refine XK.n ?_ | refine XK.a ?_ | refine XK.b ?_)); refine XK.cond rfl (fun hlt => ?_) (fun hlt => ?_) <;> (try simp at hlt)
  · have hYi := hY i hlt
    have hs := mapRun_succ f w i
    have hm0 : (mapRun f w i).mark i = w.mark i := mapRun_ge (Nat.lt_irrefl i)
    have fm : (mapRun f w i).mark (i : Int).toNat = w.mark i := hm0
    (repeat (first | refine XK.n ?_ | refine XK.a ?_ | refine XK.b ?_))
    (repeat (first | refine XK.n ?_ | refine XK.a ?_ | refine XK.b ?_)); refine XK.region ?_; refine XL.g ?_
    refine XL.callLA hE rfl rfl rfl rfl trivial rfl (running_ok ((mapRun f w i).mark (i : Int).toNat)) rfl ?_
    rw [fm]
    refine XL.g ?_
    refine XL.yieldMG [0, 1, 2, 3, 4, 5, 6] (.c (.bool false)) hE rfl rfl rfl rfl rfl rfl (fun hgd => ?_) rfl (fun hgd => ?_) (fun hgd => hYi hgd) rfl ?_ rfl (fun hgd => ?_) rfl rfl rfl (fun hgd => ?_)
    · rw [if_neg (by rw [hgd]; simp)] at hs
      refine XL.g ?_; refine XL.fin ?_; (repeat (first | refine XK.n ?_ | refine XK.a ?_ | refine XK.b ?_))
      (repeat (first | refine XK.n ?_ | refine XK.a ?_ | refine XK.b ?_)); refine XK.cond rfl (fun hb => ?_) (fun hb => ?_)
      · exact absurd hb (by rw [hgd]; simp)
      · (repeat (first | refine XK.n ?_ | refine XK.a ?_ | refine XK.b ?_))
        refine XK.inv ⟨i + 1, hlt, ?_, by omega⟩
        rw [hs]
        exact (Weak.of hN rfl rfl rfl frI frI)
    · simp only [AllP, impG, hgd]; simp
    · (repeat' (first | exact rfl | exact AvIs.refl _ | exact trivial | exact fun _ _ => rfl | exact fun _ _ => ⟨rfl, AvIs.refl _⟩ | refine ⟨?_, ?_⟩))
    · (repeat' (first | exact rfl | exact AvIs.refl _ | exact trivial | exact fun _ _ => rfl | exact fun _ _ => ⟨rfl, AvIs.refl _⟩ | refine ⟨?_, ?_⟩))
    · refine XL.g ?_; refine XL.fin ?_; (repeat (first | refine XK.n ?_ | refine XK.a ?_ | refine XK.b ?_))
      (repeat (first | refine XK.n ?_ | refine XK.a ?_ | refine XK.b ?_)); refine XK.cond rfl (fun hb => ?_) (fun hb => ?_)
      · exact absurd hb (by simp)
      · (repeat (first | refine XK.n ?_ | refine XK.a ?_ | refine XK.b ?_))
        refine XK.inv ⟨i + 1, hlt, ?_, by omega⟩
        exact (Weak.of hN rfl rfl rfl frI frI)
  · have hie : i = k.clauses.length := by omega
    subst hie
    (repeat (first | refine XK.n ?_ | refine XK.a ?_ | refine XK.b ?_))
    (first | refine XK.outR [0, 1, 2, 3, 4, 5, 6] hN rfl rfl rfl ?_ rfl rfl ?_ | refine XK.outRN [0, 1, 2, 3, 4, 5, 6] hN rfl rfl rfl ?_ rfl rfl ?_)
    · (repeat' (first | exact rfl | exact AvIs.refl _ | exact trivial | exact fun _ _ => rfl | exact fun _ _ => ⟨rfl, AvIs.refl _⟩ | refine ⟨?_, ?_⟩))
    · (repeat' (first | exact rfl | exact AvIs.refl _ | exact trivial | exact fun _ _ => rfl | exact fun _ _ => ⟨rfl, AvIs.refl _⟩ | refine ⟨?_, ?_⟩))
def csT (k : K) (free : Bool) : List AV := frL 89 [(1, .ptr 6 0), (2, .vptr 7 0 1 0 0), (4, .rptr [.c (.bool free)])]
def itT (k : K) (free : Bool) (w : Wk) : List Ob := [.cells 131 [.ptr 2 0], wO k w 3 4 5, wHold k w, wUsed k w, wMark k w, .cells 131 [.ptr 2 0], .vec 165 1 0 5 (rowOf [.c .nilFunc, .fn (.func 91) [] [], .fn (.func 92) [] [], .fn (.func 93) [] [], .fn (.func 93) [] []] 1)]
def itNT (k : K) (free : Bool) (w : Wk) : List (Nat × Ob) := [(1, .cells 131 [.ptr 2 0]), (2, wO k w 3 4 5), (3, wHold k w), (4, wUsed k w), (5, wMark k w), (6, .cells 131 [.ptr 2 0]), (7, .vec 165 1 0 5 (rowOf [.c .nilFunc, .fn (.func 91) [] [], .fn (.func 92) [] [], .fn (.func 93) [] [], .fn (.func 93) [] []] 1))]
theorem runItT_ok (k : K) (free : Bool) (hk : KFacts k) (w : Wk) (f : Nat → Mk → Mk) (L b : Nat) (rc : Array Value → Obj)
    (hY : ∀ i, i < k.clauses.length → runsM (w.mark i) = true → DoesR Tryz.prog L [.c (.int .i64 i)] (.lrec rc b (csT k free) :: itT k free (mapRun f w i)) (.c (.bool true)) (.lrec rc b (csT k free) :: itT k free (mapRun f w (i + 1)))) :
    DoesM Tryz.prog 128 [.fn (.yield L) [] [], .ptr 1 0] (.lrec rc b (csT k free) :: itT k free w) (.tup []) (.lrec rc b (csT k free) :: itT k free (mapRun f w k.clauses.length)) := by
  refine DoesM.mk (fun _ => false) 100 TT_ok Tryz.func128 rfl (by kernel_rfl) Tryz.ntmps128 rfl rfl rfl fun E hT hE hN hR => ?_
  have hm := mixO hE
  have hnc := hk.nc
  (repeat (first | refine XK.n ?_ | refine XK.a ?_ | refine XK.b ?_))
  refine XK.loop (ι := Nat) (fun i => ST.of [(0, .fn (.yield L) [] []), (1, .ptr 1 0), (9, .c (.int .i64 k.clauses.length)), (10, .c (.int .i64 i))] ((0, .lrec rc b (csT k free)) :: itNT k free (mapRun f w i)) 1000 29 (fun _ => false))
    (fun i => i ≤ k.clauses.length) (fun i => k.clauses.length - i) 0 (Nat.zero_le _)
    (Weak.of hN rfl rfl rfl frI (by simp only [mapRun_zero]; (repeat' (first | exact rfl | exact AvIs.refl _ | exact trivial | exact fun _ _ => rfl | exact fun _ _ => ⟨rfl, AvIs.refl _⟩ | refine ⟨?_, ?_⟩)))) fun i hi => ?_
  (repeat (first | refine XK.n ?_ | refine XK.a ?_ | refine XK.b ?_)); refine XK.cond rfl (fun hlt => ?_) (fun hlt => ?_) <;> (try simp at hlt)
  · have hYi := hY i hlt
    have hs := mapRun_succ f w i
    have hm0 : (mapRun f w i).mark i = w.mark i := mapRun_ge (Nat.lt_irrefl i)
    have fm : (mapRun f w i).mark (i : Int).toNat = w.mark i := hm0
    (repeat (first | refine XK.n ?_ | refine XK.a ?_ | refine XK.b ?_))
    (repeat (first | refine XK.n ?_ | refine XK.a ?_ | refine XK.b ?_)); refine XK.region ?_; refine XL.g ?_
    refine XL.callLA hE rfl rfl rfl rfl trivial rfl (running_ok ((mapRun f w i).mark (i : Int).toNat)) rfl ?_
    rw [fm]
    refine XL.g ?_
    refine XL.yieldMG [0, 1, 2, 3, 4, 5, 6, 7] (.c (.bool false)) hE rfl rfl rfl rfl rfl rfl (fun hgd => ?_) rfl (fun hgd => ?_) (fun hgd => hYi hgd) rfl ?_ rfl (fun hgd => ?_) rfl rfl rfl (fun hgd => ?_)
    · rw [if_neg (by rw [hgd]; simp)] at hs
      refine XL.g ?_; refine XL.fin ?_; (repeat (first | refine XK.n ?_ | refine XK.a ?_ | refine XK.b ?_))
      (repeat (first | refine XK.n ?_ | refine XK.a ?_ | refine XK.b ?_)); refine XK.cond rfl (fun hb => ?_) (fun hb => ?_)
      · exact absurd hb (by rw [hgd]; simp)
      · (repeat (first | refine XK.n ?_ | refine XK.a ?_ | refine XK.b ?_))
        refine XK.inv ⟨i + 1, hlt, ?_, by omega⟩
        rw [hs]
        exact (Weak.of hN rfl rfl rfl frI frI)
    · simp only [AllP, impG, hgd]; simp
    · (repeat' (first | exact rfl | exact AvIs.refl _ | exact trivial | exact fun _ _ => rfl | exact fun _ _ => ⟨rfl, AvIs.refl _⟩ | refine ⟨?_, ?_⟩))
    · (repeat' (first | exact rfl | exact AvIs.refl _ | exact trivial | exact fun _ _ => rfl | exact fun _ _ => ⟨rfl, AvIs.refl _⟩ | refine ⟨?_, ?_⟩))
    · refine XL.g ?_; refine XL.fin ?_; (repeat (first | refine XK.n ?_ | refine XK.a ?_ | refine XK.b ?_))
      (repeat (first | refine XK.n ?_ | refine XK.a ?_ | refine XK.b ?_)); refine XK.cond rfl (fun hb => ?_) (fun hb => ?_)
      · exact absurd hb (by simp)
      · (repeat (first | refine XK.n ?_ | refine XK.a ?_ | refine XK.b ?_))
        refine XK.inv ⟨i + 1, hlt, ?_, by omega⟩
        exact (Weak.of hN rfl rfl rfl frI frI)
  · have hie : i = k.clauses.length := by omega
    subst hie
    (repeat (first | refine XK.n ?_ | refine XK.a ?_ | refine XK.b ?_))
    (first | refine XK.outR [0, 1, 2, 3, 4, 5, 6, 7] hN rfl rfl rfl ?_ rfl rfl ?_ | refine XK.outRN [0, 1, 2, 3, 4, 5, 6, 7] hN rfl rfl rfl ?_ rfl rfl ?_)
    · (repeat' (first | exact rfl | exact AvIs.refl _ | exact trivial | exact fun _ _ => rfl | exact fun _ _ => ⟨rfl, AvIs.refl _⟩ | refine ⟨?_, ?_⟩))
    · (repeat' (first | exact rfl | exact AvIs.refl _ | exact trivial | exact fun _ _ => rfl | exact fun _ _ => ⟨rfl, AvIs.refl _⟩ | refine ⟨?_, ?_⟩))
def csP (k : K) (a : Nat) : List AV := frL 132 [(2, .ptr 6 0), (3, .rptr [.c (.int .i64 (a : Nat))])]
def itP (k : K) (a : Nat) (w : Wk) : List Ob := [.cells 131 [.ptr 2 0], wO k w 3 4 5, wHold k w, wUsed k w, wMark k w, .cells 131 [.ptr 2 0]]
def itNP (k : K) (a : Nat) (w : Wk) : List (Nat × Ob) := [(1, .cells 131 [.ptr 2 0]), (2, wO k w 3 4 5), (3, wHold k w), (4, wUsed k w), (5, wMark k w), (6, .cells 131 [.ptr 2 0])]
theorem runItP_ok (k : K) (a : Nat) (hk : KFacts k) (w : Wk) (f : Nat → Mk → Mk) (L b : Nat) (rc : Array Value → Obj)
    (hY : ∀ i, i < k.clauses.length → runsM (w.mark i) = true → DoesR Tryz.prog L [.c (.int .i64 i)] (.lrec rc b (csP k a) :: itP k a (mapRun f w i)) (.c (.bool true)) (.lrec rc b (csP k a) :: itP k a (mapRun f w (i + 1)))) :
    DoesM Tryz.prog 128 [.fn (.yield L) [] [], .ptr 1 0] (.lrec rc b (csP k a) :: itP k a w) (.tup []) (.lrec rc b (csP k a) :: itP k a (mapRun f w k.clauses.length)) := by
  refine DoesM.mk (fun _ => false) 100 TT_ok Tryz.func128 rfl (by kernel_rfl) Tryz.ntmps128 rfl rfl rfl fun E hT hE hN hR => ?_
  have hm := mixO hE
  have hnc := hk.nc
  (repeat (first | refine XK.n ?_ | refine XK.a ?_ | refine XK.b ?_))
  refine XK.loop (ι := Nat) (fun i => ST.of [(0, .fn (.yield L) [] []), (1, .ptr 1 0), (9, .c (.int .i64 k.clauses.length)), (10, .c (.int .i64 i))] ((0, .lrec rc b (csP k a)) :: itNP k a (mapRun f w i)) 1000 29 (fun _ => false))
    (fun i => i ≤ k.clauses.length) (fun i => k.clauses.length - i) 0 (Nat.zero_le _)
    (Weak.of hN rfl rfl rfl frI (by simp only [mapRun_zero]; (repeat' (first | exact rfl | exact AvIs.refl _ | exact trivial | exact fun _ _ => rfl | exact fun _ _ => ⟨rfl, AvIs.refl _⟩ | refine ⟨?_, ?_⟩)))) fun i hi => ?_
  (repeat (first | refine XK.n ?_ | refine XK.a ?_ | refine XK.b ?_)); refine XK.cond rfl (fun hlt => ?_) (fun hlt => ?_) <;> (try simp at hlt)
  · have hYi := hY i hlt
    have hs := mapRun_succ f w i
    have hm0 : (mapRun f w i).mark i = w.mark i := mapRun_ge (Nat.lt_irrefl i)
    have fm : (mapRun f w i).mark (i : Int).toNat = w.mark i := hm0
    (repeat (first | refine XK.n ?_ | refine XK.a ?_ | refine XK.b ?_))
    (repeat (first | refine XK.n ?_ | refine XK.a ?_ | refine XK.b ?_)); refine XK.region ?_; refine XL.g ?_
    refine XL.callLA hE rfl rfl rfl rfl trivial rfl (running_ok ((mapRun f w i).mark (i : Int).toNat)) rfl ?_
    rw [fm]
    refine XL.g ?_
    refine XL.yieldMG [0, 1, 2, 3, 4, 5, 6] (.c (.bool false)) hE rfl rfl rfl rfl rfl rfl (fun hgd => ?_) rfl (fun hgd => ?_) (fun hgd => hYi hgd) rfl ?_ rfl (fun hgd => ?_) rfl rfl rfl (fun hgd => ?_)
    · rw [if_neg (by rw [hgd]; simp)] at hs
      refine XL.g ?_; refine XL.fin ?_; (repeat (first | refine XK.n ?_ | refine XK.a ?_ | refine XK.b ?_))
      (repeat (first | refine XK.n ?_ | refine XK.a ?_ | refine XK.b ?_)); refine XK.cond rfl (fun hb => ?_) (fun hb => ?_)
      · exact absurd hb (by rw [hgd]; simp)
      · (repeat (first | refine XK.n ?_ | refine XK.a ?_ | refine XK.b ?_))
        refine XK.inv ⟨i + 1, hlt, ?_, by omega⟩
        rw [hs]
        exact (Weak.of hN rfl rfl rfl frI frI)
    · simp only [AllP, impG, hgd]; simp
    · (repeat' (first | exact rfl | exact AvIs.refl _ | exact trivial | exact fun _ _ => rfl | exact fun _ _ => ⟨rfl, AvIs.refl _⟩ | refine ⟨?_, ?_⟩))
    · (repeat' (first | exact rfl | exact AvIs.refl _ | exact trivial | exact fun _ _ => rfl | exact fun _ _ => ⟨rfl, AvIs.refl _⟩ | refine ⟨?_, ?_⟩))
    · refine XL.g ?_; refine XL.fin ?_; (repeat (first | refine XK.n ?_ | refine XK.a ?_ | refine XK.b ?_))
      (repeat (first | refine XK.n ?_ | refine XK.a ?_ | refine XK.b ?_)); refine XK.cond rfl (fun hb => ?_) (fun hb => ?_)
      · exact absurd hb (by simp)
      · (repeat (first | refine XK.n ?_ | refine XK.a ?_ | refine XK.b ?_))
        refine XK.inv ⟨i + 1, hlt, ?_, by omega⟩
        exact (Weak.of hN rfl rfl rfl frI frI)
  · have hie : i = k.clauses.length := by omega
    subst hie
    (repeat (first | refine XK.n ?_ | refine XK.a ?_ | refine XK.b ?_))
    (first | refine XK.outR [0, 1, 2, 3, 4, 5, 6] hN rfl rfl rfl ?_ rfl rfl ?_ | refine XK.outRN [0, 1, 2, 3, 4, 5, 6] hN rfl rfl rfl ?_ rfl rfl ?_)
    · (repeat' (first | exact rfl | exact AvIs.refl _ | exact trivial | exact fun _ _ => rfl | exact fun _ _ => ⟨rfl, AvIs.refl _⟩ | refine ⟨?_, ?_⟩))
    · (repeat' (first | exact rfl | exact AvIs.refl _ | exact trivial | exact fun _ _ => rfl | exact fun _ _ => ⟨rfl, AvIs.refl _⟩ | refine ⟨?_, ?_⟩))
def csA (k : K) (a : Nat) (by_ : Int) : List AV := frL 132 [(2, .ptr 6 0), (3, .rptr [.c (.int .i64 (a : Nat))]), (6, .vptr 7 0 1 0 0), (7, .rptr [.c (.int .i64 by_)])]
def itA (k : K) (a : Nat) (by_ : Int) (w : Wk) : List Ob := [.cells 131 [.ptr 2 0], wO k w 3 4 5, wHold k w, wUsed k w, wMark k w, .cells 131 [.ptr 2 0], .vec 165 1 0 5 (rowOf [.c .nilFunc, .fn (.func 96) [] [], .fn (.func 97) [] [], .fn (.func 92) [] [], .fn (.func 92) [] []] 1)]
def itNA (k : K) (a : Nat) (by_ : Int) (w : Wk) : List (Nat × Ob) := [(1, .cells 131 [.ptr 2 0]), (2, wO k w 3 4 5), (3, wHold k w), (4, wUsed k w), (5, wMark k w), (6, .cells 131 [.ptr 2 0]), (7, .vec 165 1 0 5 (rowOf [.c .nilFunc, .fn (.func 96) [] [], .fn (.func 97) [] [], .fn (.func 92) [] [], .fn (.func 92) [] []] 1))]
theorem runItA_ok (k : K) (a : Nat) (by_ : Int) (hk : KFacts k) (w : Wk) (f : Nat → Mk → Mk) (L b : Nat) (rc : Array Value → Obj)
    (hY : ∀ i, i < k.clauses.length → runsM (w.mark i) = true → DoesR Tryz.prog L [.c (.int .i64 i)] (.lrec rc b (csA k a by_) :: itA k a by_ (mapRun f w i)) (.c (.bool true)) (.lrec rc b (csA k a by_) :: itA k a by_ (mapRun f w (i + 1)))) :
    DoesM Tryz.prog 128 [.fn (.yield L) [] [], .ptr 1 0] (.lrec rc b (csA k a by_) :: itA k a by_ w) (.tup []) (.lrec rc b (csA k a by_) :: itA k a by_ (mapRun f w k.clauses.length)) := by
  refine DoesM.mk (fun _ => false) 100 TT_ok Tryz.func128 rfl (by kernel_rfl) Tryz.ntmps128 rfl rfl rfl fun E hT hE hN hR => ?_
  have hm := mixO hE
  have hnc := hk.nc
  (repeat (first | refine XK.n ?_ | refine XK.a ?_ | refine XK.b ?_))
  refine XK.loop (ι := Nat) (fun i => ST.of [(0, .fn (.yield L) [] []), (1, .ptr 1 0), (9, .c (.int .i64 k.clauses.length)), (10, .c (.int .i64 i))] ((0, .lrec rc b (csA k a by_)) :: itNA k a by_ (mapRun f w i)) 1000 29 (fun _ => false))
    (fun i => i ≤ k.clauses.length) (fun i => k.clauses.length - i) 0 (Nat.zero_le _)
    (Weak.of hN rfl rfl rfl frI (by simp only [mapRun_zero]; (repeat' (first | exact rfl | exact AvIs.refl _ | exact trivial | exact fun _ _ => rfl | exact fun _ _ => ⟨rfl, AvIs.refl _⟩ | refine ⟨?_, ?_⟩)))) fun i hi => ?_
  (repeat (first | refine XK.n ?_ | refine XK.a ?_ | refine XK.b ?_)); refine XK.cond rfl (fun hlt => ?_) (fun hlt => ?_) <;> (try simp at hlt)
  · have hYi := hY i hlt
    have hs := mapRun_succ f w i
    have hm0 : (mapRun f w i).mark i = w.mark i := mapRun_ge (Nat.lt_irrefl i)
    have fm : (mapRun f w i).mark (i : Int).toNat = w.mark i := hm0
    (repeat (first | refine XK.n ?_ | refine XK.a ?_ | refine XK.b ?_))
    (repeat (first | refine XK.n ?_ | refine XK.a ?_ | refine XK.b ?_)); refine XK.region ?_; refine XL.g ?_
    refine XL.callLA hE rfl rfl rfl rfl trivial rfl (running_ok ((mapRun f w i).mark (i : Int).toNat)) rfl ?_
    rw [fm]
    refine XL.g ?_
    refine XL.yieldMG [0, 1, 2, 3, 4, 5, 6, 7] (.c (.bool false)) hE rfl rfl rfl rfl rfl rfl (fun hgd => ?_) rfl (fun hgd => ?_) (fun hgd => hYi hgd) rfl ?_ rfl (fun hgd => ?_) rfl rfl rfl (fun hgd => ?_)
    · rw [if_neg (by rw [hgd]; simp)] at hs
      refine XL.g ?_; refine XL.fin ?_; (repeat (first | refine XK.n ?_ | refine XK.a ?_ | refine XK.b ?_))
      (repeat (first | refine XK.n ?_ | refine XK.a ?_ | refine XK.b ?_)); refine XK.cond rfl (fun hb => ?_) (fun hb => ?_)
      · exact absurd hb (by rw [hgd]; simp)
      · (repeat (first | refine XK.n ?_ | refine XK.a ?_ | refine XK.b ?_))
        refine XK.inv ⟨i + 1, hlt, ?_, by omega⟩
        rw [hs]
        exact (Weak.of hN rfl rfl rfl frI frI)
    · simp only [AllP, impG, hgd]; simp
    · (repeat' (first | exact rfl | exact AvIs.refl _ | exact trivial | exact fun _ _ => rfl | exact fun _ _ => ⟨rfl, AvIs.refl _⟩ | refine ⟨?_, ?_⟩))
    · (repeat' (first | exact rfl | exact AvIs.refl _ | exact trivial | exact fun _ _ => rfl | exact fun _ _ => ⟨rfl, AvIs.refl _⟩ | refine ⟨?_, ?_⟩))
    · refine XL.g ?_; refine XL.fin ?_; (repeat (first | refine XK.n ?_ | refine XK.a ?_ | refine XK.b ?_))
      (repeat (first | refine XK.n ?_ | refine XK.a ?_ | refine XK.b ?_)); refine XK.cond rfl (fun hb => ?_) (fun hb => ?_)
      · exact absurd hb (by simp)
      · (repeat (first | refine XK.n ?_ | refine XK.a ?_ | refine XK.b ?_))
        refine XK.inv ⟨i + 1, hlt, ?_, by omega⟩
        exact (Weak.of hN rfl rfl rfl frI frI)
  · have hie : i = k.clauses.length := by omega
    subst hie
    (repeat (first | refine XK.n ?_ | refine XK.a ?_ | refine XK.b ?_))
    (first | refine XK.outR [0, 1, 2, 3, 4, 5, 6, 7] hN rfl rfl rfl ?_ rfl rfl ?_ | refine XK.outRN [0, 1, 2, 3, 4, 5, 6, 7] hN rfl rfl rfl ?_ rfl rfl ?_)
    · (repeat' (first | exact rfl | exact AvIs.refl _ | exact trivial | exact fun _ _ => rfl | exact fun _ _ => ⟨rfl, AvIs.refl _⟩ | refine ⟨?_, ?_⟩))
    · (repeat' (first | exact rfl | exact AvIs.refl _ | exact trivial | exact fun _ _ => rfl | exact fun _ _ => ⟨rfl, AvIs.refl _⟩ | refine ⟨?_, ?_⟩))
end Go.Proofs.YtlhmgphgnedlkaaGreat
end
section
/- Contracts: package system: shift. -/
namespace Go.Proofs.YtlhmgphgnedlkaaGreat
open Go.Eng
set_option maxRecDepth 10000
theorem wshift_ok (k : K) (hk : KFacts k) (w : Wk) (a : Nat) (ha : a < k.acts.length) (hx : (acAt k a).kind ≠ 1) : DoesM Tryz.prog 99 [.ptr 0 0, .c (.int .i64 a)] (wOs k w) (.tup []) (wOs k (giveW k w a)) := by
  refine DoesM.mk (fun _ => false) 100 TT_ok Tryz.func99 rfl (by kernel_rfl) Tryz.ntmps99 rfl rfl rfl fun E hT hE hN hR => ?_
  have hm := mixO hE
  have fc : k.acts.getD (a : Int).toNat default = acAt k a := rfl
  have hf := actF (hk.act a ha)
  have hg : 0 ≤ (acAt k a).give ∧ (acAt k a).give < k.holders.length := by omega
  have hnc := hk.nc
  (repeat (first | refine XK.n ?_ | refine XK.a ?_ | refine XK.b ?_))
  refine XK.weak (Weak.of (L := [(2, .ptr 102 0), (4, .ptr 170 0), (34, .c (.bool ((acAt k a).kind != 3)))]) (O := (102, .cells 131 [.ptr 0 0]) :: (170, .cells 102 (actC (acAt k a))) :: wN k (shiftW k w a)) (nx := 1000) (nt := 66) (md := fun _ => false) hN rfl rfl rfl frI ?_) ?_
  · refine ⟨frI, frI, frI, ⟨⟨rfl, rfl, rfl⟩, rfl, fun j hj => ?_⟩, ⟨⟨rfl, rfl, rfl⟩, rfl, fun j hj => ?_⟩, frI⟩
    · show _ = setRowF (fun i => [.c (.int .i64 (w.hold i))]) (acAt k a).give.toNat 0 [.c (.int .i64 (acAt k a).to)] j
      by_cases hji : j = (acAt k a).give.toNat
      · subst hji; simp [setRowF, setL, shiftW]
      · simp [setRowF, beq_false hji, shiftW, hji]
    · by_cases hji : j = a
      · subst hji; simp [setRowF, setL, shiftW]
      · simp [setRowF, beq_false hji, shiftW, hji]
  unfold giveW
  generalize shiftW k w a = w1
  (repeat (first | refine XK.n ?_ | refine XK.a ?_ | refine XK.b ?_)); refine XK.cond rfl (fun h3 => ?_) (fun h3 => ?_) <;> (try simp at h3)
  · rw [if_pos h3]
    (repeat (first | refine XK.n ?_ | refine XK.a ?_ | refine XK.b ?_))
    (first | refine XK.outR [0, 1, 2, 3] hN rfl rfl rfl ?_ rfl rfl ?_ | refine XK.outRN [0, 1, 2, 3] hN rfl rfl rfl ?_ rfl rfl ?_)
    · (repeat' (first | exact rfl | exact AvIs.refl _ | exact trivial | exact fun _ _ => rfl | exact fun _ _ => ⟨rfl, AvIs.refl _⟩ | refine ⟨?_, ?_⟩))
    · (repeat' (first | exact rfl | exact AvIs.refl _ | exact trivial | exact fun _ _ => rfl | exact fun _ _ => ⟨rfl, AvIs.refl _⟩ | refine ⟨?_, ?_⟩))
  · rw [if_neg (by simpa using h3)]
    (repeat (first | refine XK.n ?_ | refine XK.a ?_ | refine XK.b ?_))
    (repeat (first | refine XK.n ?_ | refine XK.a ?_ | refine XK.b ?_)); refine XK.region ?_; refine XL.g ?_
    refine XL.callMA [0, 1, 2, 3, 701] hE rfl rfl rfl rfl trivial (wrunning_ok k w1) rfl rfl rfl rfl rfl ?_
    refine XL.g ?_; refine XL.fin ?_; (repeat (first | refine XK.n ?_ | refine XK.a ?_ | refine XK.b ?_))
    refine XK.weak (Weak.trans (Weak.frozenC (k := 170) hN rfl rfl rfl) (Weak.of (L := [(2, .ptr 102 0), (4, .rptr (actC (acAt k a))), (36, .fn (.func 128) [] [.ptr 701 0])]) (O := (701, .cells 131 [.ptr 0 0]) :: (102, .cells 131 [.ptr 0 0]) :: wN k w1) (nx := 2000) (nt := 66) (md := fun _ => false) hN rfl rfl rfl frI frI)) ?_
    refine XK.rangeFunc 900 [701, 0, 1, 2, 3, 102] (frL 66 [(2, .ptr 102 0), (4, .rptr (actC (acAt k a)))])
      (ST.of [] (wN k (mapRun (bearM k (acAt k a)) w1 k.clauses.length)) 3000 66 (fun _ => false))
      (res := .tup []) (args' := [.ptr 1 0]) (s := .ready) (pend := none) (O' := itS k a (mapRun (bearM k (acAt k a)) w1 k.clauses.length)) (O := itS k a w1) hR rfl trivial rfl (frL_length _ _) (frL_is frI) (fun L D fn => ?_) rfl frI rfl rfl frI rfl rfl (by simp) (fun L D fn cs => (Weak.of hN rfl rfl rfl frI frI)) ?_
    · rw [hE]
      refine runItS_ok k a hk w1 (bearM k (acAt k a)) L L (recOf fn _ _ _ D .ready none) (fun i hi hr => ?_)
      · have hs := mapRun_succ (bearM k (acAt k a)) w1 i
        rw [if_pos hr] at hs
        have hm0 : (mapRun (bearM k (acAt k a)) w1 i).mark i = w1.mark i := mapRun_ge (Nat.lt_irrefl i)
        rw [hs]
        generalize mapRun (bearM k (acAt k a)) w1 i = w2 at *
        have fc2 : k.clauses.getD (i : Int).toNat default = clAt k i := rfl
        refine DoesR.mkT TT_ok (fun _ => false) 100 (ST.of [(2, .ptr 6 0), (4, .rptr (actC (acAt k a))), (5, .c (.int .i64 i))] ((0, .lrec (recOf fn _ _ _ D .ready none) L (csS k a)) :: itNS k a w2) 1000 66 (fun _ => false)) rfl ?_ (Nat.le_refl 6) (fun E hT hE hN hR => ?_) rfl (fun E hT hE hN hR => ?_)
        · intro x hx
          simp only [List.mem_toArray, List.mem_singleton] at hx
          subst hx
          show 37 < (frL 66 _).length
          rw [frL_length]
          omega
        · have hm := mixO hE
          (repeat (first | refine XK.n ?_ | refine XK.a ?_ | refine XK.b ?_))
          exact XK.nil ⟨rfl, (Weak.of hN rfl rfl rfl frI frI)⟩
        · have hm := mixO hE
          unfold bearM
          (repeat (first | refine XK.n ?_ | refine XK.a ?_ | refine XK.b ?_))
          rw [fc2]
          (repeat (first | refine XK.n ?_ | refine XK.a ?_ | refine XK.b ?_)); refine XK.cond rfl (fun h5 => ?_) (fun h5 => ?_) <;> (try simp at h5)
          · rw [if_pos (show (clAt k i).kind ≠ 4 ∧ (clAt k i).role = (acAt k a).give by simpa using h5), ← hm0]
            (repeat (first | refine XK.n ?_ | refine XK.a ?_ | refine XK.b ?_))
            (first | refine XK.outY [0, 1, 2, 3, 4, 5, 6] hN rfl rfl rfl ?_ ?_ ?_ | refine XK.outYN [0, 1, 2, 3, 4, 5, 6] hN rfl rfl rfl ?_ ?_ ?_)
            · (repeat' (first | exact rfl | exact AvIs.refl _ | exact trivial | exact fun _ _ => rfl | exact fun _ _ => ⟨rfl, AvIs.refl _⟩ | exact fun _ hi => absurd hi (Nat.not_lt_zero _) | (intro i hi; cases Nat.lt_one_iff.1 hi; rfl) | (intro j hj; by_cases hji : j = (i); (· subst hji; simp [setRowF, setL, mkC, Wk.upM]; done); (· simp [setRowF, beq_false hji, Wk.upM, hji, lt_succ_ne hji]; done)) | refine ⟨?_, ?_⟩))
            · rfl
            · rfl
          · rw [if_neg (show ¬ ((clAt k i).kind ≠ 4 ∧ (clAt k i).role = (acAt k a).give) by simpa using h5), ← hm0, upM_self]
            (repeat (first | refine XK.n ?_ | refine XK.a ?_ | refine XK.b ?_))
            (first | refine XK.outY [0, 1, 2, 3, 4, 5, 6] hN rfl rfl rfl ?_ ?_ ?_ | refine XK.outYN [0, 1, 2, 3, 4, 5, 6] hN rfl rfl rfl ?_ ?_ ?_)
            · (repeat' (first | exact rfl | exact AvIs.refl _ | exact trivial | exact fun _ _ => rfl | exact fun _ _ => ⟨rfl, AvIs.refl _⟩ | refine ⟨?_, ?_⟩))
            · rfl
            · rfl
    · (repeat (first | refine XK.n ?_ | refine XK.a ?_ | refine XK.b ?_))
      (first | refine XK.outR [0, 1, 2, 3] hN rfl rfl rfl ?_ rfl rfl ?_ | refine XK.outRN [0, 1, 2, 3] hN rfl rfl rfl ?_ rfl rfl ?_)
      · (repeat' (first | exact rfl | exact AvIs.refl _ | exact trivial | exact fun _ _ => rfl | exact fun _ _ => ⟨rfl, AvIs.refl _⟩ | refine ⟨?_, ?_⟩))
      · (repeat' (first | exact rfl | exact AvIs.refl _ | exact trivial | exact fun _ _ => rfl | exact fun _ _ => ⟨rfl, AvIs.refl _⟩ | refine ⟨?_, ?_⟩))
end Go.Proofs.YtlhmgphgnedlkaaGreat
end
