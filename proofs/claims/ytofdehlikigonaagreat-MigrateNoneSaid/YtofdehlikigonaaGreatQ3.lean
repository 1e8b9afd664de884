import Derived.Test.YtofdehlikigonaaGreatQ2
import Derived.Test.YtofdehlikigonaaGreatP8
section
/- Contracts: package patch: Apply. -/
namespace Go.Proofs.YtofdehlikigonaaGreat
open Go.Eng
set_option maxRecDepth 10000
set_option linter.unusedSimpArgs false
set_option linter.unusedVariables false
def zKV : AV := .agg [.c (.int .i64 0), .c (.slice none 0 0), .c (.slice none 0 0), .c (.slice none 0 0), .c (.slice none 0 0), .c (.int .i64 0), .c (.slice none 0 0)]
theorem zKV_is : AvS zKV (kV zeroK) := AvS.agg ⟨AvS.refl _, AvS.nil, AvS.nil, AvS.nil, AvS.nil, AvS.refl _, AvS.nil, trivial⟩
theorem AvS.tupS {l l' : List AV} (h : AvSL l l') : AvS (.tup l) (.tup l') := by
  intro w G ρ v hr
  obtain ⟨cs, rfl, h1, h2⟩ := hr.tup_inv
  obtain ⟨h3, h4⟩ := AvSL.at_ h
  exact .tup (h1.trans h3) fun i y hi => by
    obtain ⟨x, hx, hxy⟩ := h4 i y hi
    exact hxy _ _ _ _ (h2 i x hx)
/-- A contract that is handed back, or the zero one with an error. -/
def kE (x : K × Int) : AV := if x.2 = 0 then kV x.1 else zKV
theorem kE_is {x : K × Int} (h : x.2 ≠ 0 → x.1 = zeroK) : AvS (kE x) (kV x.1) := by
  unfold kE
  split
  · exact AvS.refl _
  · rename_i h0; rw [h h0]; exact zKV_is
theorem incB_idx {n : Int} : ∀ {l : List Int} {last : Int}, -1 ≤ last → incB n last l = true → ∀ i, i < l.length → 0 ≤ l.getD i default ∧ l.getD i default < n
  | [], _, _, _, i, hi => absurd hi (Nat.not_lt_zero _)
  | x :: l, last, h0, h, i, hi => by
    simp only [incB, Bool.and_eq_true, decide_eq_true_eq] at h
    cases i with
    | zero => exact ⟨by show 0 ≤ x; omega, h.1.2⟩
    | succ i => exact incB_idx (by omega) h.2 i (by simpa using hi)
theorem fits_facts {n : Int} {p : Pt} {e : Ef} (h : fitsB n p e = true) : (e.least ≤ (p.clauses.length : Int) ∧ (p.clauses.length : Int) ≤ e.most) ∧ incB n (-1) p.clauses = true := by
  simp only [fitsB, Bool.and_eq_true, decide_eq_true_eq] at h
  exact ⟨⟨h.1.1.1.1, h.1.1.1.2⟩, h.1.1.2⟩
def zeroCells : List AV := [.c (.int .i64 0), .c (.int .i64 0), .c (.int .i64 0), .c (.int .i64 0), .c (.slice none 0 0), .c (.int .i64 0), .c (.int .i64 0), .c (.bool false), .c (.bool false), .c (.int .i64 0), .c (.int .i64 0), .c (.int .i64 0), .c (.int .i64 0), .c (.int .i64 0), .c (.int .i64 0), .c (.bool false)]
/-- The first i clauses, copied. -/
def rowTo (k : K) (i : Nat) : Nat → List AV := fun j => bif Nat.blt j i then clC (k.clauses.getD j default) else zeroCells
theorem units_len {k : K} (h : (kValid k).1 = 0) : k.units.length ≤ 20 := by
  unfold kValid at h
  split at h
  · simp at h
  · rename_i h1
    simp only [Bool.or_eq_true, decide_eq_true_eq, not_or] at h1
    omega
theorem off_len {k : K} (h : KFacts k) : k.off.length ≤ 2000 := by
  have ho := h.off
  unfold offB at ho
  rw [List.all_eq_true] at ho
  have key : ∀ i, i < k.off.length → (i : Int) ≤ k.off.getD i default ∧ k.off.getD i default < k.days := by
    intro i
    induction i with
    | zero => 
      intro hi
      have := ho 0 (List.mem_range.2 hi)
      simp only [Bool.and_eq_true, decide_eq_true_eq, offPrev, if_pos] at this
      omega
    | succ i ih =>
      intro hi
      have := ho (i + 1) (List.mem_range.2 hi)
      simp only [Bool.and_eq_true, decide_eq_true_eq, offPrev, Nat.add_one_ne_zero, if_false, Nat.add_sub_cancel] at this
      have := ih (by omega)
      omega
  have hd := h.days
  by_cases h0 : k.off.length = 0
  · omega
  · have := key (k.off.length - 1) (by omega)
    omega
theorem rowTo_succ {k : K} {i : Nat} (hi : i < k.clauses.length) (j : Nat) : rowTo k (i + 1) j = setRowF (rowTo k i) i 0 (clC (clAt k i)) j := by
  unfold setRowF rowTo
  by_cases h : j = i
  · subst h
    rw [show Nat.beq j j = true by simp, show Nat.blt j (j + 1) = true by simp]
    have hb : Nat.blt j j = false := by
      cases hb : Nat.blt j j with
      | false => rfl
      | true => exact absurd (Nat.le_of_ble_eq_true hb) (Nat.lt_irrefl _)
    rw [hb]
    rfl
  · rw [beq_false h]
    have : Nat.blt j (i + 1) = Nat.blt j i := by
      rw [Bool.eq_iff_iff, Nat.blt_eq, Nat.blt_eq]; omega
    rw [this]
    rfl
theorem apply_ok0 (k : K) (hk : kW k) (p : Pt) (hp : ptW p) (hc : p.clauses.length ≤ 1000000) (hs : p.new.start.length ≤ 1000000) : Does Tryz.prog 17 [kV k, ptV p] (.tup [kE (applyR k p), .c (.int .i64 (applyR k p).2)]) := by
  refine Does.mk (fun d => Nat.beq d 57) TT_ok Tryz.func17 rfl (by kernel_rfl) Tryz.ntmps17 rfl rfl fun E hT hE hN hR => ?_
  have hm : E.P.follows .mixedOrders = true := by rw [hE]; kernel_rfl
  (repeat (first | refine XK.norm rfl rfl ?_ | refine XK.rgnA hT rfl rfl rfl ?_ | refine XK.rgnB hT hm rfl rfl rfl ?_)); refine XK.region ?_; refine XL.goA hT rfl rfl rfl rfl ?_
  refine XL.callLA hE rfl rfl rfl rfl trivial rfl (kValid_ok k hk) rfl ?_
  refine XL.goA hT rfl rfl rfl rfl ?_; refine XL.fin ?_; (repeat (first | refine XK.norm rfl rfl ?_ | refine XK.rgnA hT rfl rfl rfl ?_ | refine XK.rgnB hT hm rfl rfl rfl ?_))
  (repeat (first | refine XK.norm rfl rfl ?_ | refine XK.rgnA hT rfl rfl rfl ?_ | refine XK.rgnB hT hm rfl rfl rfl ?_)); refine XK.cond rfl (fun h1 => ?_) (fun h1 => ?_)
  · have h1 : (kValid k).1 ≠ 0 := by simpa using h1
    rw [applyR, if_pos h1]
    (repeat (first | refine XK.norm rfl rfl ?_ | refine XK.rgnA hT rfl rfl rfl ?_ | refine XK.rgnB hT hm rfl rfl rfl ?_))
    (first | refine XK.out rfl rfl rfl ?_ | refine XK.outN rfl rfl rfl ?_)
    rfl
  have h1 : (kValid k).1 = 0 := by simpa using h1
  have hF := (show kOk k from ⟨hk, h1⟩).facts
  have hnc := hF.nc
  rw [applyR, if_neg (by simpa using h1)]
  (repeat (first | refine XK.norm rfl rfl ?_ | refine XK.rgnA hT rfl rfl rfl ?_ | refine XK.rgnB hT hm rfl rfl rfl ?_)); refine XK.drawn hm ?_; refine XD.goA hT rfl rfl rfl rfl ?_
  refine XD.callMA [800] hE rfl rfl rfl rfl trivial (effects_ok) rfl rfl rfl rfl rfl ?_
  refine XD.goN 2 hT rfl rfl rfl rfl rfl rfl ?_ ?_
  · trivial
  cases he : efOf p.kind with
  | none =>
    have hz : effVal (.int .i64 p.kind) = .agg [.c (.int .i64 0), .c (.int .i64 0), .c (.bool false), .c (.bool false), .c .nilFunc] := by
      simp only [effVal, effAt, he]
    have hd : effDom (.int .i64 p.kind) = false := by simp [effDom, he]
    refine XD.opE hT (y := .tup [.agg [.c (.int .i64 0), .c (.int .i64 0), .c (.bool false), .c (.bool false), .c .nilFunc], .c (.bool false)]) rfl rfl rfl rfl trivial rfl (by rw [cond_true, hz, hd]) ?_
    refine XD.goA hT rfl rfl rfl rfl ?_; refine XD.fin (by kernel_rfl) ?_; (repeat (first | refine XK.norm rfl rfl ?_ | refine XK.rgnA hT rfl rfl rfl ?_ | refine XK.rgnB hT hm rfl rfl rfl ?_))
    (repeat (first | refine XK.norm rfl rfl ?_ | refine XK.rgnA hT rfl rfl rfl ?_ | refine XK.rgnB hT hm rfl rfl rfl ?_)); refine XK.region ?_; refine XL.goA hT rfl rfl rfl rfl ?_
    refine XL.callLG (args' := []) (res := .c (.bool true)) hE rfl rfl rfl rfl rfl rfl rfl (by first | (simp [AllP, impG]; done) | (simp only [AllP, impG]; grind)) rfl (fun hgd => nomatch hgd) rfl ?_
    refine XL.goA hT rfl rfl rfl rfl ?_; refine XL.fin ?_; (repeat (first | refine XK.norm rfl rfl ?_ | refine XK.rgnA hT rfl rfl rfl ?_ | refine XK.rgnB hT hm rfl rfl rfl ?_))
    (repeat (first | refine XK.norm rfl rfl ?_ | refine XK.rgnA hT rfl rfl rfl ?_ | refine XK.rgnB hT hm rfl rfl rfl ?_)); refine XK.cond rfl (fun h2 => ?_) (fun h2 => ?_)
    · (repeat (first | refine XK.norm rfl rfl ?_ | refine XK.rgnA hT rfl rfl rfl ?_ | refine XK.rgnB hT hm rfl rfl rfl ?_))
      (first | refine XK.out rfl rfl rfl ?_ | refine XK.outN rfl rfl rfl ?_)
      rfl
    · cases h2
  | some e => 
    have hz : effVal (.int .i64 p.kind) = efV e (effFn p.kind) := by
      simp only [effVal, effAt, he]
    have hd : effDom (.int .i64 p.kind) = true := by simp [effDom, he]
    refine XD.opE hT (y := .tup [.agg [.c (.int .i64 e.least), .c (.int .i64 e.most), .c (.bool e.renewed), .c (.bool e.spanned), .fn (.func (effFn p.kind)) [] []], .c (.bool true)]) rfl rfl rfl rfl trivial rfl (by rw [cond_true, hz, hd]; rfl) ?_
    refine XD.goA hT rfl rfl rfl rfl ?_; refine XD.fin (by kernel_rfl) ?_; (repeat (first | refine XK.norm rfl rfl ?_ | refine XK.rgnA hT rfl rfl rfl ?_ | refine XK.rgnB hT hm rfl rfl rfl ?_))
    (repeat (first | refine XK.norm rfl rfl ?_ | refine XK.rgnA hT rfl rfl rfl ?_ | refine XK.rgnB hT hm rfl rfl rfl ?_)); refine XK.region ?_; refine XL.goA hT rfl rfl rfl rfl ?_
    refine XL.callGA hE rfl rfl rfl rfl rfl rfl rfl rfl (fits_ok k p hp hc e (effFn p.kind)) rfl ?_
    refine XL.goA hT rfl rfl rfl rfl ?_; refine XL.fin ?_; (repeat (first | refine XK.norm rfl rfl ?_ | refine XK.rgnA hT rfl rfl rfl ?_ | refine XK.rgnB hT hm rfl rfl rfl ?_))
    (repeat (first | refine XK.norm rfl rfl ?_ | refine XK.rgnA hT rfl rfl rfl ?_ | refine XK.rgnB hT hm rfl rfl rfl ?_)); refine XK.cond rfl (fun h2 => ?_) (fun h2 => ?_)
    · have h2 : fitsB k.clauses.length p e = false := by simpa using h2
      dsimp only
      rw [if_pos h2]
      (repeat (first | refine XK.norm rfl rfl ?_ | refine XK.rgnA hT rfl rfl rfl ?_ | refine XK.rgnB hT hm rfl rfl rfl ?_))
      (first | refine XK.out rfl rfl rfl ?_ | refine XK.outN rfl rfl rfl ?_)
      rfl
    have h2 : fitsB k.clauses.length p e = true := by simpa using h2
    dsimp only
    rw [if_neg (by rw [h2]; simp)]
    (repeat (first | refine XK.norm rfl rfl ?_ | refine XK.rgnA hT rfl rfl rfl ?_ | refine XK.rgnB hT hm rfl rfl rfl ?_)); refine XK.cond rfl (fun h3 => ?_) (fun h3 => ?_)
    · have h3 : p.kind = 1 ∧ k.clauses.length = 400 := by simp at h3; omega
      rw [if_pos h3]
      (repeat (first | refine XK.norm rfl rfl ?_ | refine XK.rgnA hT rfl rfl rfl ?_ | refine XK.rgnB hT hm rfl rfl rfl ?_))
      (first | refine XK.out rfl rfl rfl ?_ | refine XK.outN rfl rfl rfl ?_)
      rfl
    have h3 : ¬ (p.kind = 1 ∧ k.clauses.length = 400) := by
      rintro ⟨h4, h5⟩
      rw [h4, h5] at h3
      simp at h3
    rw [if_neg h3]
    (repeat (first | refine XK.norm rfl rfl ?_ | refine XK.rgnA hT rfl rfl rfl ?_ | refine XK.rgnB hT hm rfl rfl rfl ?_))
    refine XK.loop (ι := Nat) (fun i => ST.of [(2, .ptr 2 0), (3, .rptr (ptC p)), (4, .ptr 4 0), (5, .c (.int .i64 0)), (8, .ptr 317 0), (10, .vec 675 0), (59, clsV k.clauses), (60, .c (.int .i64 k.clauses.length)), (61, .c (.int .i64 i))]
      [(2, .cells 27 (kC k)), (4, .cells 27 [.c (.int .i64 0), .c (.slice none 0 0), .c (.slice none 0 0), .c (.slice none 0 0), .c (.slice none 0 0), .c (.int .i64 0), .c (.slice none 0 0)]),
       (317, .cells 81 [.c (.int .i64 e.least), .c (.int .i64 e.most), .c (.bool e.renewed), .c (.bool e.spanned), .fn (.func (effFn p.kind)) [] []]), (675, .vec 32 16 0 k.clauses.length (rowTo k i))] 1000 103 (fun _ => false))
      (fun i => i ≤ k.clauses.length) (fun i => k.clauses.length - i) 0 (Nat.zero_le _)
      (Weak.trans (Weak.frozenC (k := 3) hN rfl rfl rfl) (Weak.of hN rfl rfl rfl (by (repeat' (first | exact rfl | exact AvIs.refl _ | exact trivial | exact fun _ _ => rfl | exact fun _ _ => ⟨rfl, AvIs.refl _⟩ | refine ⟨?_, ?_⟩))) (by (repeat' (first | exact rfl | exact AvIs.refl _ | exact trivial | exact fun _ _ => rfl | exact fun _ _ => ⟨rfl, AvIs.refl _⟩ | refine ⟨?_, ?_⟩))))) fun i hi => ?_
    (repeat (first | refine XK.norm rfl rfl ?_ | refine XK.rgnA hT rfl rfl rfl ?_ | refine XK.rgnB hT hm rfl rfl rfl ?_)); refine XK.cond rfl (fun hlt => ?_) (fun hlt => ?_) <;> (try simp at hlt)
    · have fx : k.clauses.getD (i : Int).toNat default = clAt k i := rfl
      have hcl := clCopied_ok (clAt k i) (by have := (hF.clB hlt).2.2.2.1; omega)
      (repeat (first | refine XK.norm rfl rfl ?_ | refine XK.rgnA hT rfl rfl rfl ?_ | refine XK.rgnB hT hm rfl rfl rfl ?_))
      rw [fx]
      (repeat (first | refine XK.norm rfl rfl ?_ | refine XK.rgnA hT rfl rfl rfl ?_ | refine XK.rgnB hT hm rfl rfl rfl ?_)); refine XK.region ?_; refine XL.goA hT rfl rfl rfl rfl ?_
      refine XL.callKA hE rfl rfl rfl rfl trivial rfl rfl (hcl) ?_
      refine XL.goA hT rfl rfl rfl rfl ?_; refine XL.fin ?_; (repeat (first | refine XK.norm rfl rfl ?_ | refine XK.rgnA hT rfl rfl rfl ?_ | refine XK.rgnB hT hm rfl rfl rfl ?_))
      refine XK.inv ⟨i + 1, hlt, Weak.of hN rfl rfl rfl (by (repeat' (first | exact rfl | exact AvIs.refl _ | exact trivial | exact fun _ _ => rfl | exact fun _ _ => ⟨rfl, AvIs.refl _⟩ | exact cI (by omega) | refine ⟨?_, ?_⟩))) ⟨by (repeat' (first | exact rfl | exact AvIs.refl _ | exact trivial | exact fun _ _ => rfl | exact fun _ _ => ⟨rfl, AvIs.refl _⟩ | refine ⟨?_, ?_⟩)), by (repeat' (first | exact rfl | exact AvIs.refl _ | exact trivial | exact fun _ _ => rfl | exact fun _ _ => ⟨rfl, AvIs.refl _⟩ | refine ⟨?_, ?_⟩)), by (repeat' (first | exact rfl | exact AvIs.refl _ | exact trivial | exact fun _ _ => rfl | exact fun _ _ => ⟨rfl, AvIs.refl _⟩ | refine ⟨?_, ?_⟩)), ⟨rfl, rfl, rfl⟩, rfl, fun j hj => (rowTo_succ hlt j)⟩, by omega⟩
    have hie : i = k.clauses.length := by omega
    subst hie
    obtain ⟨hf1, hf2⟩ := fits_facts h2
    have hidx : idxOk k.clauses.length p.clauses := incB_idx (by omega) hf2
    have hk2 : p.kind = 2 → 0 < p.clauses.length := fun h => by
      rw [h] at he
      have : e = ⟨1, 1, true, false⟩ := by simpa [efOf] using he.symm
      rw [this] at hf1
      have := hf1.1
      simp only at this
      omega
    have ef := eff_ok k.clauses p hp he hidx hk2 hc hs (by omega)
    have hdl := doP_len (cs := k.clauses) (p := p)
    have hdw := doP_W (cs := k.clauses) hp hk.2.2.2.2.1
    generalize doP k.clauses p = D at *
    have hkD : kW { k with clauses := D } := ⟨hk.1, hk.2.1, hk.2.2.1, hk.2.2.2.1, hdw, hk.2.2.2.2.2⟩
    have vd := kValid_ok { k with clauses := D } hkD
    refine XK.weak (st' := ST.of [(2, .ptr 2 0), (3, .rptr (ptC p)), (4, .ptr 4 0), (5, .c (.int .i64 0)), (8, .ptr 317 0), (10, .vec 675 0)]
      [(2, .cells 27 (kC k)), (4, .cells 27 [.c (.int .i64 0), .c (.slice none 0 0), .c (.slice none 0 0), .c (.slice none 0 0), .c (.slice none 0 0), .c (.int .i64 0), .c (.slice none 0 0)]),
       (317, .cells 81 [.c (.int .i64 e.least), .c (.int .i64 e.most), .c (.bool e.renewed), .c (.bool e.spanned), .fn (.func (effFn p.kind)) [] []]), (675, clsO 0 k.clauses)] 2000 103 (fun _ => false))
      (Weak.of hN rfl rfl rfl (by (repeat' (first | exact rfl | exact AvIs.refl _ | exact trivial | exact fun _ _ => rfl | exact fun _ _ => ⟨rfl, AvIs.refl _⟩ | exact cI (by omega) | refine ⟨?_, ?_⟩))) ⟨by (repeat' (first | exact rfl | exact AvIs.refl _ | exact trivial | exact fun _ _ => rfl | exact fun _ _ => ⟨rfl, AvIs.refl _⟩ | refine ⟨?_, ?_⟩)), by (repeat' (first | exact rfl | exact AvIs.refl _ | exact trivial | exact fun _ _ => rfl | exact fun _ _ => ⟨rfl, AvIs.refl _⟩ | refine ⟨?_, ?_⟩)), by (repeat' (first | exact rfl | exact AvIs.refl _ | exact trivial | exact fun _ _ => rfl | exact fun _ _ => ⟨rfl, AvIs.refl _⟩ | refine ⟨?_, ?_⟩)), ⟨rfl, rfl, rfl⟩, rfl, fun j hj => by show clC _ = bif Nat.blt j k.clauses.length then _ else _; rw [show Nat.blt j k.clauses.length = true from Nat.ble_eq_true_of_le hj]; rfl⟩) ?_
    (repeat (first | refine XK.norm rfl rfl ?_ | refine XK.rgnA hT rfl rfl rfl ?_ | refine XK.rgnB hT hm rfl rfl rfl ?_))
    (repeat (first | refine XK.norm rfl rfl ?_ | refine XK.rgnA hT rfl rfl rfl ?_ | refine XK.rgnB hT hm rfl rfl rfl ?_)); refine XK.region ?_; refine XL.goA hT rfl rfl rfl rfl ?_
    refine XL.callMA [675] hE rfl rfl rfl rfl trivial (ef) rfl rfl rfl rfl rfl ?_
    refine XL.goA hT rfl rfl rfl rfl ?_; refine XL.fin ?_; (repeat (first | refine XK.norm rfl rfl ?_ | refine XK.rgnA hT rfl rfl rfl ?_ | refine XK.rgnB hT hm rfl rfl rfl ?_))
    refine XK.weak (Weak.frozen (k := 675) hN rfl rfl) ?_
    refine XK.weak (st' := ST.of [(2, .ptr 2 0), (4, .ptr 4 0), (5, .c (.int .i64 0))]
      [(2, .cells 27 (kC { k with clauses := D })), (4, .cells 27 [.c (.int .i64 0), .c (.slice none 0 0), .c (.slice none 0 0), .c (.slice none 0 0), .c (.slice none 0 0), .c (.int .i64 0), .c (.slice none 0 0)])] 3000 103 (fun _ => false)) (Weak.of hN rfl rfl rfl (by (repeat' (first | exact rfl | exact AvIs.refl _ | exact trivial | exact fun _ _ => rfl | exact fun _ _ => ⟨rfl, AvIs.refl _⟩ | refine ⟨?_, ?_⟩))) (by (repeat' (first | exact rfl | exact AvIs.refl _ | exact trivial | exact fun _ _ => rfl | exact fun _ _ => ⟨rfl, AvIs.refl _⟩ | refine ⟨?_, ?_⟩)))) ?_
    (repeat (first | refine XK.norm rfl rfl ?_ | refine XK.rgnA hT rfl rfl rfl ?_ | refine XK.rgnB hT hm rfl rfl rfl ?_)); refine XK.region ?_; refine XL.goA hT rfl rfl rfl rfl ?_
    refine XL.callLA hE rfl rfl rfl rfl trivial rfl (vd) rfl ?_
    refine XL.goA hT rfl rfl rfl rfl ?_; refine XL.fin ?_; (repeat (first | refine XK.norm rfl rfl ?_ | refine XK.rgnA hT rfl rfl rfl ?_ | refine XK.rgnB hT hm rfl rfl rfl ?_))
    (repeat (first | refine XK.norm rfl rfl ?_ | refine XK.rgnA hT rfl rfl rfl ?_ | refine XK.rgnB hT hm rfl rfl rfl ?_)); refine XK.cond rfl (fun h5 => ?_) (fun h5 => ?_)
    · have h5 : (kValid { k with clauses := D }).1 ≠ 0 := by simpa using h5
      rw [if_pos h5]
      (repeat (first | refine XK.norm rfl rfl ?_ | refine XK.rgnA hT rfl rfl rfl ?_ | refine XK.rgnB hT hm rfl rfl rfl ?_))
      (first | refine XK.out rfl rfl rfl ?_ | refine XK.outN rfl rfl rfl ?_)
      rfl
    have h5 : (kValid { k with clauses := D }).1 = 0 := by simpa using h5
    rw [if_neg (by simpa using h5)]
    (repeat (first | refine XK.norm rfl rfl ?_ | refine XK.rgnA hT rfl rfl rfl ?_ | refine XK.rgnB hT hm rfl rfl rfl ?_)); refine XK.drawn hm ?_; refine XD.goA hT rfl rfl rfl rfl ?_
    refine XD.callKA hE rfl rfl rfl rfl trivial rfl rfl (cln_ints k.holders (by have := hF.nh; omega)) ?_
    refine XD.goA hT rfl rfl rfl rfl ?_
    refine XD.callKA hE rfl rfl rfl rfl trivial rfl rfl (cln_units k.units (by have := units_len h1; omega)) ?_
    refine XD.goA hT rfl rfl rfl rfl ?_; refine XD.fin (by kernel_rfl) ?_; (repeat (first | refine XK.norm rfl rfl ?_ | refine XK.rgnA hT rfl rfl rfl ?_ | refine XK.rgnB hT hm rfl rfl rfl ?_))
    (repeat (first | refine XK.norm rfl rfl ?_ | refine XK.rgnA hT rfl rfl rfl ?_ | refine XK.rgnB hT hm rfl rfl rfl ?_)); refine XK.drawn hm ?_; refine XD.goA hT rfl rfl rfl rfl ?_
    refine XD.callKA hE rfl rfl rfl rfl trivial rfl rfl (cln_acts k.acts (by have := hF.na; omega)) ?_
    refine XD.goA hT rfl rfl rfl rfl ?_
    refine XD.callKA hE rfl rfl rfl rfl trivial rfl rfl (cln_ints k.off (by have := off_len hF; omega)) ?_
    refine XD.goA hT rfl rfl rfl rfl ?_; refine XD.fin (by kernel_rfl) ?_; (repeat (first | refine XK.norm rfl rfl ?_ | refine XK.rgnA hT rfl rfl rfl ?_ | refine XK.rgnB hT hm rfl rfl rfl ?_))
    (first | refine XK.out rfl rfl rfl ?_ | refine XK.outN rfl rfl rfl ?_)
    rfl
theorem applyR_cases (k : K) (p : Pt) : ((applyR k p).2 ≠ 0 ∧ (applyR k p).1 = zeroK) ∨ ((applyR k p).2 = 0 ∧ (kValid k).1 = 0 ∧ (applyR k p).1 = { k with clauses := doP k.clauses p } ∧ (kValid (applyR k p).1).1 = 0 ∧ ∃ e, efOf p.kind = some e ∧ fitsB k.clauses.length p e = true) := by
  by_cases h1 : (kValid k).1 = 0
  · rw [applyR, if_neg (by simpa using h1)]
    cases he : efOf p.kind with
    | none => exact .inl ⟨by simp, rfl⟩
    | some e =>
      dsimp only
      by_cases h2 : fitsB k.clauses.length p e = false
      · rw [if_pos h2]; exact .inl ⟨by simp, rfl⟩
      · rw [if_neg h2]
        by_cases h3 : p.kind = 1 ∧ k.clauses.length = 400
        · rw [if_pos h3]; exact .inl ⟨by simp, rfl⟩
        · rw [if_neg h3]
          by_cases h4 : (kValid { k with clauses := doP k.clauses p }).1 = 0
          · rw [if_neg (by simpa using h4)]
            exact .inr ⟨rfl, h1, rfl, h4, e, rfl, by simpa using h2⟩
          · rw [if_pos (by simpa using h4)]; exact .inl ⟨by simp, rfl⟩
  · rw [applyR, if_pos (by simpa using h1)]; exact .inl ⟨by simp, rfl⟩
theorem zeroK_W : kW zeroK := by simp [kW, zeroK, inK]
theorem applyR_W {k : K} (hk : kW k) {p : Pt} (hp : ptW p) : kW (applyR k p).1 := by
  rcases applyR_cases k p with ⟨_, h⟩ | ⟨_, _, h, _⟩
  · rw [h]; exact zeroK_W
  · rw [h]
    exact ⟨hk.1, hk.2.1, hk.2.2.1, hk.2.2.2.1, doP_W hp hk.2.2.2.2.1, hk.2.2.2.2.2⟩
theorem apply_ok (k : K) (hk : kW k) (p : Pt) (hp : ptW p) (hc : p.clauses.length ≤ 1000000) (hs : p.new.start.length ≤ 1000000) : Does Tryz.prog 17 [kV k, ptV p] (.tup [kV (applyR k p).1, .c (.int .i64 (applyR k p).2)]) :=
  (apply_ok0 k hk p hp hc hs).weaken (AvS.tupS ⟨kE_is (fun h => by
    rcases applyR_cases k p with ⟨_, h'⟩ | ⟨h', _⟩
    · exact h'
    · exact absurd h' h), AvS.refl _, trivial⟩)
end Go.Proofs.YtofdehlikigonaaGreat
end
