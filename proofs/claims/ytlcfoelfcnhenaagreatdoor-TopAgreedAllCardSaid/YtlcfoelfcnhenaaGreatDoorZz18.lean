import Derived.Test.YtlcfoelfcnhenaaGreatDoorZz14
import Derived.Test.YtlcfoelfcnhenaaGreatDoorZz17
set_option linter.unusedSimpArgs false
set_option linter.unusedVariables false
set_option maxRecDepth 10000
namespace Go.Proofs.YtlcfoelfcnhenaaGreatDoor
section
open Go.Eng
def zKV : AV := .agg [.c (.int .i64 0), .c (.slice none 0 0), .c (.slice none 0 0), .c (.slice none 0 0), .c (.slice none 0 0), .c (.int .i64 0), .c (.slice none 0 0)]
theorem zKV_is : AvS zKV (kV zeroK) := AvS.agg ⟨AvS.refl _, AvS.nil, AvS.nil, AvS.nil, AvS.nil, AvS.refl _, AvS.nil, trivial⟩
theorem AvS.tupS {l l' : List AV} (h : AvSL l l') : AvS (.tup l) (.tup l') := by
  intro w G ρ v hr
  obtain ⟨cs, rfl, h1, h2⟩ := hr.tup_inv
  obtain ⟨h3, h4⟩ := AvSL.at_ h
  exact .tup (h1.trans h3) fun i y hi => by
    obtain ⟨x, hx, hxy⟩ := h4 i y hi
    exact hxy _ _ _ _ (h2 i x hx)
def kE (x : K × Int) : AV := if x.2 = 0 then kV x.1 else zKV
theorem kE_is {x : K × Int} (h : x.2 ≠ 0 → x.1 = zeroK) : AvS (kE x) (kV x.1) := by
  unfold kE
  split
  · exact AvS.refl _
  · rename_i h0; rw [h h0]; exact zKV_is
theorem incB_idx {n : Int} : ∀ {l : List Int} {last : Int}, -1 ≤ last → incB n last l = true → ∀ i, i < l.length → 0 ≤ l.getD i default ∧ l.getD i default < n
  | [], _, _, _, i, hi => absurd hi (Nat.not_lt_zero _)
  | x :: l, last, h0, h, i, hi => by
    simp only [incB, Bool.and_eq_true, decide_eq_true_eq] at h
    cases i with
    | zero => exact ⟨by show 0 ≤ x; omega, h.1.2⟩
    | succ i => exact incB_idx (by omega) h.2 i (by simpa using hi)
theorem fits_facts {n : Int} {p : Pt} {e : Ef} (h : fitsB n p e = true) : (e.least ≤ (p.clauses.length : Int) ∧ (p.clauses.length : Int) ≤ e.most) ∧ incB n (-1) p.clauses = true := by
  simp only [fitsB, Bool.and_eq_true, decide_eq_true_eq] at h
  exact ⟨⟨h.1.1.1.1, h.1.1.1.2⟩, h.1.1.2⟩
def zeroCells : List AV := [.c (.int .i64 0), .c (.int .i64 0), .c (.int .i64 0), .c (.int .i64 0), .c (.slice none 0 0), .c (.int .i64 0), .c (.int .i64 0), .c (.bool false), .c (.bool false), .c (.int .i64 0), .c (.int .i64 0), .c (.int .i64 0), .c (.int .i64 0), .c (.int .i64 0), .c (.int .i64 0), .c (.bool false)]
def rowTo (k : K) (i : Nat) : Nat → List AV := fun j => bif Nat.blt j i then clC (k.clauses.getD j default) else zeroCells
theorem units_len {k : K} (h : (kValid k).1 = 0) : k.units.length ≤ 20 := by
  unfold kValid at h
  split at h
  · simp at h
  · rename_i h1
    simp only [Bool.or_eq_true, decide_eq_true_eq, not_or] at h1
    omega
theorem off_len {k : K} (h : KFacts k) : k.off.length ≤ 2000 := by
  have ho := h.off
  unfold offB at ho
  rw [List.all_eq_true] at ho
  have key : ∀ i, i < k.off.length → (i : Int) ≤ k.off.getD i default ∧ k.off.getD i default < k.days := by
    intro i
    induction i with
    | zero => 
      intro hi
      have := ho 0 (List.mem_range.2 hi)
      simp only [Bool.and_eq_true, decide_eq_true_eq, offPrev, if_pos] at this
      omega
    | succ i ih =>
      intro hi
      have := ho (i + 1) (List.mem_range.2 hi)
      simp only [Bool.and_eq_true, decide_eq_true_eq, offPrev, Nat.add_one_ne_zero, if_false, Nat.add_sub_cancel] at this
      have := ih (by omega)
      omega
  have hd := h.days
  by_cases h0 : k.off.length = 0
  · omega
  · have := key (k.off.length - 1) (by omega)
    omega
theorem rowTo_succ {k : K} {i : Nat} (hi : i < k.clauses.length) (j : Nat) : rowTo k (i + 1) j = setRowF (rowTo k i) i 0 (clC (clAt k i)) j := by
  unfold setRowF rowTo
  by_cases h : j = i
  · subst h
    rw [show Nat.beq j j = true by simp, show Nat.blt j (j + 1) = true by simp]
    have hb : Nat.blt j j = false := by
      cases hb : Nat.blt j j with
      | false => rfl
      | true => exact absurd (Nat.le_of_ble_eq_true hb) (Nat.lt_irrefl _)
    rw [hb]
    rfl
  · rw [beq_false h]
    have : Nat.blt j (i + 1) = Nat.blt j i := by
      rw [Bool.eq_iff_iff, Nat.blt_eq, Nat.blt_eq]; omega
    rw [this]
    rfl
theorem apply_ok0 (k : K) (hk : kW k) (p : Pt) (hp : ptW p) (hc : p.clauses.length ≤ 1000000) (hs : p.new.start.length ≤ 1000000) : Does Tryz.prog 30 [kV k, ptV p] (.tup [kE (applyR k p), .c (.int .i64 (applyR k p).2)]) := by
  refine Does.mk (fun d => Nat.beq d 57) TT_ok Tryz.func30 rfl (by kernel_rfl) Tryz.ntmps30 rfl rfl fun E hT hE hN hR => ?_
  have hm := mixO hE
  (repeat (first | refine XK.n ?_ | refine XK.a ?_ | refine XK.b ?_)); refine XK.region ?_; refine XL.g ?_
  refine XL.callLA hE rfl rfl rfl rfl trivial rfl (kValid_ok k hk) rfl ?_
  refine XL.g ?_; refine XL.fin ?_; (repeat (first | refine XK.n ?_ | refine XK.a ?_ | refine XK.b ?_))
  (repeat (first | refine XK.n ?_ | refine XK.a ?_ | refine XK.b ?_)); refine XK.cond rfl (fun h1 => ?_) (fun h1 => ?_)
  · have h1 : (kValid k).1 ≠ 0 := by simpa using h1
    rw [applyR, if_pos h1]
    (repeat (first | refine XK.n ?_ | refine XK.a ?_ | refine XK.b ?_))
    (first | refine XK.o ?_ | refine XK.p ?_)
    rfl
  have h1 : (kValid k).1 = 0 := by simpa using h1
  have hF := (show kOk k from ⟨hk, h1⟩).facts
  have hnc := hF.nc
  rw [applyR, if_neg (by simpa using h1)]
  (repeat (first | refine XK.n ?_ | refine XK.a ?_ | refine XK.b ?_)); refine XK.drawn hm ?_; refine XD.goA hT rfl rfl rfl rfl ?_
  refine XD.callMA [800] hE rfl rfl rfl rfl trivial (effects_ok) rfl rfl rfl rfl rfl ?_
  refine XD.goN 2 hT rfl rfl rfl rfl rfl rfl ?_ ?_
  · trivial
  cases he : efOf p.kind with
  | none =>
    have hz : effVal (.int .i64 p.kind) = .agg [.c (.int .i64 0), .c (.int .i64 0), .c (.bool false), .c (.bool false), .c .nilFunc] := by
      simp only [effVal, effAt, he]
    have hd : effDom (.int .i64 p.kind) = false := by simp [effDom, he]
    refine XD.opE hT (y := .tup [.agg [.c (.int .i64 0), .c (.int .i64 0), .c (.bool false), .c (.bool false), .c .nilFunc], .c (.bool false)]) rfl rfl rfl rfl trivial rfl (by rw [cond_true, hz, hd]) ?_
    refine XD.goA hT rfl rfl rfl rfl ?_; refine XD.fin (by kernel_rfl) ?_; (repeat (first | refine XK.n ?_ | refine XK.a ?_ | refine XK.b ?_))
    (repeat (first | refine XK.n ?_ | refine XK.a ?_ | refine XK.b ?_)); refine XK.region ?_; refine XL.g ?_
    refine XL.callLG (args' := []) (res := .c (.bool true)) hE rfl rfl rfl rfl rfl rfl rfl (by first | (simp [AllP, impG]; done) | (simp only [AllP, impG]; grind)) rfl (fun hgd => nomatch hgd) rfl ?_
    refine XL.g ?_; refine XL.fin ?_; (repeat (first | refine XK.n ?_ | refine XK.a ?_ | refine XK.b ?_))
    (repeat (first | refine XK.n ?_ | refine XK.a ?_ | refine XK.b ?_)); refine XK.cond rfl (fun h2 => ?_) (fun h2 => ?_)
    · (repeat (first | refine XK.n ?_ | refine XK.a ?_ | refine XK.b ?_))
      (first | refine XK.o ?_ | refine XK.p ?_)
      rfl
    · cases h2
  | some e => 
    have hz : effVal (.int .i64 p.kind) = efV e (effFn p.kind) := by
      simp only [effVal, effAt, he]
    have hd : effDom (.int .i64 p.kind) = true := by simp [effDom, he]
    refine XD.opE hT (y := .tup [.agg [.c (.int .i64 e.least), .c (.int .i64 e.most), .c (.bool e.renewed), .c (.bool e.spanned), .fn (.func (effFn p.kind)) [] []], .c (.bool true)]) rfl rfl rfl rfl trivial rfl (by rw [cond_true, hz, hd]; rfl) ?_
    refine XD.goA hT rfl rfl rfl rfl ?_; refine XD.fin (by kernel_rfl) ?_; (repeat (first | refine XK.n ?_ | refine XK.a ?_ | refine XK.b ?_))
    (repeat (first | refine XK.n ?_ | refine XK.a ?_ | refine XK.b ?_)); refine XK.region ?_; refine XL.g ?_
    refine XL.callGA hE rfl rfl rfl rfl rfl rfl rfl rfl (fits_ok k p hp hc e (effFn p.kind)) rfl ?_
    refine XL.g ?_; refine XL.fin ?_; (repeat (first | refine XK.n ?_ | refine XK.a ?_ | refine XK.b ?_))
    (repeat (first | refine XK.n ?_ | refine XK.a ?_ | refine XK.b ?_)); refine XK.cond rfl (fun h2 => ?_) (fun h2 => ?_)
    · have h2 : fitsB k.clauses.length p e = false := by simpa using h2
      dsimp only
      rw [if_pos h2]
      (repeat (first | refine XK.n ?_ | refine XK.a ?_ | refine XK.b ?_))
      (first | refine XK.o ?_ | refine XK.p ?_)
      rfl
    have h2 : fitsB k.clauses.length p e = true := by simpa using h2
    dsimp only
    rw [if_neg (by rw [h2]; simp)]
    (repeat (first | refine XK.n ?_ | refine XK.a ?_ | refine XK.b ?_)); refine XK.cond rfl (fun h3 => ?_) (fun h3 => ?_)
    · have h3 : p.kind = 1 ∧ k.clauses.length = 400 := by simp at h3; omega
      rw [if_pos h3]
      (repeat (first | refine XK.n ?_ | refine XK.a ?_ | refine XK.b ?_))
      (first | refine XK.o ?_ | refine XK.p ?_)
      rfl
    have h3 : ¬ (p.kind = 1 ∧ k.clauses.length = 400) := by
      rintro ⟨h4, h5⟩
      rw [h4, h5] at h3
      simp at h3
    rw [if_neg h3]
    (repeat (first | refine XK.n ?_ | refine XK.a ?_ | refine XK.b ?_))
    refine XK.loop (ι := Nat) (fun i => ST.of [(2, .ptr 2 0), (3, .rptr (ptC p)), (4, .ptr 4 0), (5, .c (.int .i64 0)), (8, .ptr 317 0), (10, .vec 675 0), (59, clsV k.clauses), (60, .c (.int .i64 k.clauses.length)), (61, .c (.int .i64 i))]
      [(2, .cells 27 (kC k)), (4, .cells 27 [.c (.int .i64 0), .c (.slice none 0 0), .c (.slice none 0 0), .c (.slice none 0 0), .c (.slice none 0 0), .c (.int .i64 0), .c (.slice none 0 0)]),
       (317, .cells 142 [.c (.int .i64 e.least), .c (.int .i64 e.most), .c (.bool e.renewed), .c (.bool e.spanned), .fn (.func (effFn p.kind)) [] []]), (675, .vec 56 16 0 k.clauses.length (rowTo k i))] 1000 103 (fun _ => false))
      (fun i => i ≤ k.clauses.length) (fun i => k.clauses.length - i) 0 (Nat.zero_le _)
      (Weak.trans (Weak.frozenC (k := 3) hN rfl rfl rfl) (Weak.of hN rfl rfl rfl frI frI)) fun i hi => ?_
    (repeat (first | refine XK.n ?_ | refine XK.a ?_ | refine XK.b ?_)); refine XK.cond rfl (fun hlt => ?_) (fun hlt => ?_) <;> (try simp at hlt)
    · have fx : k.clauses.getD (i : Int).toNat default = clAt k i := rfl
      have hcl := clCopied_ok (clAt k i) (by have := (hF.clB hlt).2.2.2.1; omega)
      (repeat (first | refine XK.n ?_ | refine XK.a ?_ | refine XK.b ?_))
      rw [fx]
      (repeat (first | refine XK.n ?_ | refine XK.a ?_ | refine XK.b ?_)); refine XK.region ?_; refine XL.g ?_
      refine XL.callKA hE rfl rfl rfl rfl trivial rfl rfl (hcl) ?_
      refine XL.g ?_; refine XL.fin ?_; (repeat (first | refine XK.n ?_ | refine XK.a ?_ | refine XK.b ?_))
      refine XK.inv ⟨i + 1, hlt, Weak.of hN rfl rfl rfl frV ⟨frI, frI, frI, ⟨rfl, rfl, rfl⟩, rfl, fun j hj => (rowTo_succ hlt j)⟩, by omega⟩
    have hie : i = k.clauses.length := by omega
    subst hie
    obtain ⟨hf1, hf2⟩ := fits_facts h2
    have hidx : idxOk k.clauses.length p.clauses := incB_idx (by omega) hf2
    have hk2 : p.kind = 2 → 0 < p.clauses.length := fun h => by
      rw [h] at he
      have : e = ⟨1, 1, true, false⟩ := by simpa [efOf] using he.symm
      rw [this] at hf1
      have := hf1.1
      simp only at this
      omega
    have ef := eff_ok k.clauses p hp he hidx hk2 hc hs (by omega)
    have hdl := doP_len (cs := k.clauses) (p := p)
    have hdw := doP_W (cs := k.clauses) hp hk.2.2.2.2.1
    generalize doP k.clauses p = D at *
    have hkD : kW { k with clauses := D } := ⟨hk.1, hk.2.1, hk.2.2.1, hk.2.2.2.1, hdw, hk.2.2.2.2.2⟩
    have vd := kValid_ok { k with clauses := D } hkD
    refine XK.weak (st' := ST.of [(2, .ptr 2 0), (3, .rptr (ptC p)), (4, .ptr 4 0), (5, .c (.int .i64 0)), (8, .ptr 317 0), (10, .vec 675 0)]
      [(2, .cells 27 (kC k)), (4, .cells 27 [.c (.int .i64 0), .c (.slice none 0 0), .c (.slice none 0 0), .c (.slice none 0 0), .c (.slice none 0 0), .c (.int .i64 0), .c (.slice none 0 0)]),
       (317, .cells 142 [.c (.int .i64 e.least), .c (.int .i64 e.most), .c (.bool e.renewed), .c (.bool e.spanned), .fn (.func (effFn p.kind)) [] []]), (675, clsO 0 k.clauses)] 2000 103 (fun _ => false))
      (Weak.of hN rfl rfl rfl frV ⟨frI, frI, frI, ⟨rfl, rfl, rfl⟩, rfl, fun j hj => by show clC _ = bif Nat.blt j k.clauses.length then _ else _; rw [show Nat.blt j k.clauses.length = true from Nat.ble_eq_true_of_le hj]; rfl⟩) ?_
    (repeat (first | refine XK.n ?_ | refine XK.a ?_ | refine XK.b ?_))
    (repeat (first | refine XK.n ?_ | refine XK.a ?_ | refine XK.b ?_)); refine XK.region ?_; refine XL.g ?_
    refine XL.callMA [675] hE rfl rfl rfl rfl trivial (ef) rfl rfl rfl rfl rfl ?_
    refine XL.g ?_; refine XL.fin ?_; (repeat (first | refine XK.n ?_ | refine XK.a ?_ | refine XK.b ?_))
    refine XK.weak (Weak.frozen (k := 675) hN rfl rfl) ?_
    refine XK.weak (st' := ST.of [(2, .ptr 2 0), (4, .ptr 4 0), (5, .c (.int .i64 0))]
      [(2, .cells 27 (kC { k with clauses := D })), (4, .cells 27 [.c (.int .i64 0), .c (.slice none 0 0), .c (.slice none 0 0), .c (.slice none 0 0), .c (.slice none 0 0), .c (.int .i64 0), .c (.slice none 0 0)])] 3000 103 (fun _ => false)) (Weak.of hN rfl rfl rfl frI frI) ?_
    (repeat (first | refine XK.n ?_ | refine XK.a ?_ | refine XK.b ?_)); refine XK.region ?_; refine XL.g ?_
    refine XL.callLA hE rfl rfl rfl rfl trivial rfl (vd) rfl ?_
    refine XL.g ?_; refine XL.fin ?_; (repeat (first | refine XK.n ?_ | refine XK.a ?_ | refine XK.b ?_))
    (repeat (first | refine XK.n ?_ | refine XK.a ?_ | refine XK.b ?_)); refine XK.cond rfl (fun h5 => ?_) (fun h5 => ?_)
    · have h5 : (kValid { k with clauses := D }).1 ≠ 0 := by simpa using h5
      rw [if_pos h5]
      (repeat (first | refine XK.n ?_ | refine XK.a ?_ | refine XK.b ?_))
      (first | refine XK.o ?_ | refine XK.p ?_)
      rfl
    have h5 : (kValid { k with clauses := D }).1 = 0 := by simpa using h5
    rw [if_neg (by simpa using h5)]
    (repeat (first | refine XK.n ?_ | refine XK.a ?_ | refine XK.b ?_)); refine XK.drawn hm ?_; refine XD.goA hT rfl rfl rfl rfl ?_
    refine XD.callKA hE rfl rfl rfl rfl trivial rfl rfl (cln_ints k.holders (by have := hF.nh; omega)) ?_
    refine XD.goA hT rfl rfl rfl rfl ?_
    refine XD.callKA hE rfl rfl rfl rfl trivial rfl rfl (cln_units k.units (by have := units_len h1; omega)) ?_
    refine XD.goA hT rfl rfl rfl rfl ?_; refine XD.fin (by kernel_rfl) ?_; (repeat (first | refine XK.n ?_ | refine XK.a ?_ | refine XK.b ?_))
    (repeat (first | refine XK.n ?_ | refine XK.a ?_ | refine XK.b ?_)); refine XK.drawn hm ?_; refine XD.goA hT rfl rfl rfl rfl ?_
    refine XD.callKA hE rfl rfl rfl rfl trivial rfl rfl (cln_acts k.acts (by have := hF.na; omega)) ?_
    refine XD.goA hT rfl rfl rfl rfl ?_
    refine XD.callKA hE rfl rfl rfl rfl trivial rfl rfl (cln_ints k.off (by have := off_len hF; omega)) ?_
    refine XD.goA hT rfl rfl rfl rfl ?_; refine XD.fin (by kernel_rfl) ?_; (repeat (first | refine XK.n ?_ | refine XK.a ?_ | refine XK.b ?_))
    (first | refine XK.o ?_ | refine XK.p ?_)
    rfl
theorem applyR_cases (k : K) (p : Pt) : ((applyR k p).2 ≠ 0 ∧ (applyR k p).1 = zeroK) ∨ ((applyR k p).2 = 0 ∧ (kValid k).1 = 0 ∧ (applyR k p).1 = { k with clauses := doP k.clauses p } ∧ (kValid (applyR k p).1).1 = 0 ∧ ∃ e, efOf p.kind = some e ∧ fitsB k.clauses.length p e = true) := by
  by_cases h1 : (kValid k).1 = 0
  · rw [applyR, if_neg (by simpa using h1)]
    cases he : efOf p.kind with
    | none => exact .inl ⟨by simp, rfl⟩
    | some e =>
      dsimp only
      by_cases h2 : fitsB k.clauses.length p e = false
      · rw [if_pos h2]; exact .inl ⟨by simp, rfl⟩
      · rw [if_neg h2]
        by_cases h3 : p.kind = 1 ∧ k.clauses.length = 400
        · rw [if_pos h3]; exact .inl ⟨by simp, rfl⟩
        · rw [if_neg h3]
          by_cases h4 : (kValid { k with clauses := doP k.clauses p }).1 = 0
          · rw [if_neg (by simpa using h4)]
            exact .inr ⟨rfl, h1, rfl, h4, e, rfl, by simpa using h2⟩
          · rw [if_pos (by simpa using h4)]; exact .inl ⟨by simp, rfl⟩
  · rw [applyR, if_pos (by simpa using h1)]; exact .inl ⟨by simp, rfl⟩
theorem zeroK_W : kW zeroK := by simp [kW, zeroK, inK]
theorem applyR_W {k : K} (hk : kW k) {p : Pt} (hp : ptW p) : kW (applyR k p).1 := by
  rcases applyR_cases k p with ⟨_, h⟩ | ⟨_, _, h, _⟩
  · rw [h]; exact zeroK_W
  · rw [h]
    exact ⟨hk.1, hk.2.1, hk.2.2.1, hk.2.2.2.1, doP_W hp hk.2.2.2.2.1, hk.2.2.2.2.2⟩
theorem apply_ok (k : K) (hk : kW k) (p : Pt) (hp : ptW p) (hc : p.clauses.length ≤ 1000000) (hs : p.new.start.length ≤ 1000000) : Does Tryz.prog 30 [kV k, ptV p] (.tup [kV (applyR k p).1, .c (.int .i64 (applyR k p).2)]) :=
  (apply_ok0 k hk p hp hc hs).weaken (AvS.tupS ⟨kE_is (fun h => by
    rcases applyR_cases k p with ⟨_, h'⟩ | ⟨h', _⟩
    · exact h'
    · exact absurd h' h), AvS.refl _, trivial⟩)
end
section
open Go.Eng
structure Mk where
  status : Int
  left : Int
  got : Int
  bearer : Int
  paused : Bool
instance : Inhabited Mk := ⟨⟨0, 0, 0, 0, false⟩⟩
structure Wk where
  day : Int
  hold : Nat → Int
  used : Nat → Bool
  mark : Nat → Mk
def Wk.upM (w : Wk) (i : Nat) (m : Mk) : Wk := { w with mark := fun j => if j = i then m else w.mark j }
def runsM (m : Mk) : Bool := m.status == 1 || m.status == 2
def endM (m : Mk) (s : Int) : Mk := ⟨s, 0, m.got, m.bearer, false⟩
def condHB (mk : Nat → Mk) (c : Cnd) : Bool :=
  if c.is = 1 then (mk c.clause.toNat).status != 0 else if c.is = 2 then (mk c.clause.toNat).status == 3
  else if c.is = 3 then (mk c.clause.toNat).status == 4 else if c.is = 4 then (mk c.clause.toNat).status == 5 else false
def rdyB (k : K) (mk : Nat → Mk) (i : Nat) : Bool :=
  if ((mk i).status != 0 || (clAt k i).waived) = true then false else (clAt k i).start.all (condHB mk)
def liveM (k : K) (hold : Nat → Int) (i : Nat) : Mk := ⟨1, (clAt k i).after, 0, if (clAt k i).kind ≠ 4 then hold (clAt k i).role.toNat else -1, false⟩
def passTo (k : K) (w : Wk) : Nat → Wk × Bool
  | 0 => (w, false)
  | i + 1 => if rdyB k (passTo k w i).1.mark i = true then ((passTo k w i).1.upM i (liveM k (passTo k w i).1.hold i), true) else passTo k w i
def startN (k : K) : Nat → Wk → Wk
  | 0, w => w
  | f + 1, w => if (passTo k w k.clauses.length).2 = true then startN k f (passTo k w k.clauses.length).1 else w
def idleN (k : K) (mk : Nat → Mk) : Nat := (List.range k.clauses.length).countP (fun i => (mk i).status == 0)
def startW (k : K) (w : Wk) : Wk := startN k (idleN k w.mark + 1) w
def mapRun (f : Nat → Mk → Mk) (w : Wk) (n : Nat) : Wk := { w with mark := fun i => if i < n ∧ runsM (w.mark i) = true then f i (w.mark i) else w.mark i }
def offD (k : K) (d : Int) : Bool := k.off.any (fun x => x == d)
def expM (x : Cl) (m : Mk) : Mk := if m.status = 1 ∧ 0 < x.grace then ⟨2, x.grace, m.got, m.bearer, m.paused⟩ else endM m 4
def dayM (x : Cl) (m : Mk) : Mk := if x.kind = 1 then expM x m else if x.kind = 2 then endM m 3 else endM m 5
def lessM (m : Mk) : Mk := ⟨m.status, m.left - 1, m.got, m.bearer, m.paused⟩
def tickM (k : K) (free : Bool) (i : Nat) (m : Mk) : Mk :=
  if (m.paused || (clAt k i).business && free) = true then m else if m.left - 1 = 0 then dayM (clAt k i) (lessM m) else lessM m
def pauseM (k : K) (a : Int) (i : Nat) (m : Mk) : Mk := if a = (clAt k i).pause then ⟨m.status, m.left, m.got, m.bearer, true⟩ else if a = (clAt k i).resume then ⟨m.status, m.left, m.got, m.bearer, false⟩ else m
def moreM (m : Mk) : Mk := ⟨m.status, m.left, m.got + 1, m.bearer, m.paused⟩
def performM (x : Cl) (m : Mk) : Mk := if m.got + 1 = x.need then endM (moreM m) 3 else moreM m
def violM (m : Mk) : Mk := if m.paused = true then m else endM m 4
def doM (x : Cl) (m : Mk) : Mk := if x.kind = 1 then performM x m else if x.kind = 2 then violM m else endM m 3
def effM (k : K) (a : Int) (by_ : Int) (i : Nat) (m : Mk) : Mk := if (clAt k i).act = a ∧ ((clAt k i).kind = 4 ∨ m.bearer = by_) then doM (clAt k i) m else m
def bearM (k : K) (x : Act) (i : Nat) (m : Mk) : Mk := if (clAt k i).kind ≠ 4 ∧ (clAt k i).role = x.give then ⟨m.status, m.left, m.got, x.to, m.paused⟩ else m
def doerW (k : K) (hold : Nat → Int) (a : Nat) : Int := if (acAt k a).role = -1 then -1 else hold (acAt k a).role.toNat
def shiftW (k : K) (w : Wk) (a : Nat) : Wk := { w with hold := fun j => if j = (acAt k a).give.toNat then (acAt k a).to else w.hold j, used := fun j => if j = a then true else w.used j }
def giveW (k : K) (w : Wk) (a : Nat) : Wk := if (acAt k a).kind ≠ 3 then shiftW k w a else mapRun (bearM k (acAt k a)) (shiftW k w a) k.clauses.length
def preA (k : K) (w : Wk) (a : Nat) : Wk := mapRun (effM k a (doerW k w.hold a)) (mapRun (pauseM k a) w k.clauses.length) k.clauses.length
def preG (k : K) (w : Wk) (a : Nat) : Wk := if (acAt k a).kind ≠ 1 then giveW k (preA k w a) a else preA k w a
def actW' (k : K) (w : Wk) (a : Nat) : Wk := if (acAt k a).kind ≠ 1 ∧ w.used a = true then w else startW k (preG k w a)
def preT (k : K) (w : Wk) : Wk := { mapRun (tickM k (offD k w.day)) w k.clauses.length with day := w.day + 1 }
def tickW (k : K) (w : Wk) : Wk := startW k (preT k w)
def stepW (k : K) (w : Wk) (s : Int) : Wk := if s = -1 then tickW k w else actW' k w s.toNat
def runB (k : K) (x : Cl) (m : Mk) : Bool :=
  if (x.waived || decide (m.left < 1) || (m.paused && x.pause == -1)) = true then false
  else if (m.got != 0 && (x.kind != 1 || decide (m.got < 0) || decide (x.need ≤ m.got))) = true then false
  else if x.kind = 4 then m.bearer == -1 else decide (0 ≤ m.bearer) && decide (m.bearer < k.parties)
def idleB (m : Mk) : Bool := m.status == 0 && m.left == 0 && m.got == 0 && m.bearer == -1 && !m.paused
def endB (k : K) (m : Mk) : Bool := m.left == 0 && decide (0 ≤ m.got) && decide (m.got ≤ 9) && decide (-1 ≤ m.bearer) && decide (m.bearer < k.parties) && !m.paused
def markB (k : K) (i : Nat) (m : Mk) : Bool :=
  if m.status = 0 then !(clAt k i).waived && idleB m
  else if m.status = 1 then decide (m.left ≤ (clAt k i).after) && runB k (clAt k i) m
  else if m.status = 2 then (clAt k i).kind == 1 && decide (m.left ≤ (clAt k i).grace) && runB k (clAt k i) m
  else if m.status = 3 ∨ m.status = 4 ∨ m.status = 5 then endB k m else false
structure WOk (k : K) (w : Wk) : Prop where
  day : 0 ≤ w.day ∧ w.day ≤ k.days
  hold : ∀ i, i < k.holders.length → 0 ≤ w.hold i ∧ w.hold i < k.parties
  used : ∀ i, i < k.acts.length → w.used i = true → (acAt k i).kind ≠ 1
  mark : ∀ i, i < k.clauses.length → markB k i (w.mark i) = true
  rdy : ∀ i, i < k.clauses.length → rdyB k w.mark i = false
structure SRel (k : K) (w w' : Wk) : Prop where
  day : w'.day = w.day
  hold : w'.hold = w.hold
  used : w'.used = w.used
  mark : ∀ j, w'.mark j = w.mark j ∨ (j < k.clauses.length ∧ (w.mark j).status = 0 ∧ (clAt k j).waived = false ∧ w'.mark j = liveM k w.hold j ∧ ∀ c ∈ (clAt k j).start, condHB w'.mark c = true)
theorem cond_mono {mk mk' : Nat → Mk} (h : ∀ j, (mk' j).status = (mk j).status ∨ ((mk j).status = 0 ∧ (mk' j).status = 1)) {c : Cnd} (hc : condHB mk c = true) : condHB mk' c = true := by
  unfold condHB at hc ⊢
  have hj := h c.clause.toNat
  generalize (mk c.clause.toNat).status = x at *
  generalize (mk' c.clause.toNat).status = y at *
  split
  · rename_i h1
    rw [if_pos h1] at hc
    have hc : x ≠ 0 := by simpa using hc
    have : y ≠ 0 := by omega
    simpa using this
  · rename_i h1
    rw [if_neg h1] at hc
    split
    · rename_i h2
      rw [if_pos h2] at hc
      have hc : x = 3 := by simpa using hc
      have : y = 3 := by omega
      simpa using this
    · rename_i h2
      rw [if_neg h2] at hc
      split
      · rename_i h3
        rw [if_pos h3] at hc
        have hc : x = 4 := by simpa using hc
        have : y = 4 := by omega
        simpa using this
      · rename_i h3
        rw [if_neg h3] at hc
        split
        · rename_i h4
          rw [if_pos h4] at hc
          have hc : x = 5 := by simpa using hc
          have : y = 5 := by omega
          simpa using this
        · rename_i h4
          rw [if_neg h4] at hc
          cases hc
theorem SRel.refl (k : K) (w : Wk) : SRel k w w := ⟨rfl, rfl, rfl, fun _ => .inl rfl⟩
theorem SRel.stat {k : K} {w w' : Wk} (h : SRel k w w') (j : Nat) : (w'.mark j).status = (w.mark j).status ∨ ((w.mark j).status = 0 ∧ (w'.mark j).status = 1) := by
  rcases h.mark j with h1 | ⟨_, h1, _, h2, _⟩
  · exact .inl (by rw [h1])
  · exact .inr ⟨h1, by rw [h2]; rfl⟩
theorem SRel.trans {k : K} {w w' w'' : Wk} (h : SRel k w w') (g : SRel k w' w'') : SRel k w w'' := by
  refine ⟨g.day.trans h.day, g.hold.trans h.hold, g.used.trans h.used, fun j => ?_⟩
  rcases g.mark j with g1 | ⟨a1, a2, a3, a4, a5⟩
  · rcases h.mark j with h1 | ⟨b1, b2, b3, b4, b5⟩
    · exact .inl (g1.trans h1)
    · exact .inr ⟨b1, b2, b3, g1.trans b4, fun c hc => cond_mono g.stat (b5 c hc)⟩
  · rcases h.mark j with h1 | ⟨b1, b2, b3, b4, b5⟩
    · exact .inr ⟨a1, by rw [← h1]; exact a2, a3, by rw [a4, h.hold], a5⟩
    · rw [b4] at a2; simp [liveM] at a2
theorem rdyB_true {k : K} {mk : Nat → Mk} {i : Nat} (h : rdyB k mk i = true) : (mk i).status = 0 ∧ (clAt k i).waived = false ∧ ∀ c ∈ (clAt k i).start, condHB mk c = true := by
  unfold rdyB at h
  split at h
  · cases h
  · rename_i h1
    simp only [Bool.or_eq_true, bne_iff_ne, ne_eq, not_or, Bool.not_eq_true, Decidable.not_not] at h1
    exact ⟨h1.1, h1.2, fun c hc => List.all_eq_true.1 h c hc⟩
theorem SRel.one {k : K} {w : Wk} {i : Nat} (hi : i < k.clauses.length) (h : rdyB k w.mark i = true) : SRel k w (w.upM i (liveM k w.hold i)) := by
  obtain ⟨h1, h2, h3⟩ := rdyB_true h
  refine ⟨rfl, rfl, rfl, fun j => ?_⟩
  by_cases hj : j = i
  · subst hj
    refine .inr ⟨hi, h1, h2, by simp [Wk.upM], fun c hc => cond_mono (fun j' => ?_) (h3 c hc)⟩
    by_cases hj' : j' = j
    · subst hj'; exact .inr ⟨h1, by simp [Wk.upM, liveM]⟩
    · exact .inl (by simp [Wk.upM, hj'])
  · exact .inl (by simp [Wk.upM, hj])
theorem countP_le {p p' : Nat → Bool} {n : Nat} (h : ∀ j, p' j = true → p j = true) : (List.range n).countP p' ≤ (List.range n).countP p := List.countP_mono_left fun x _ hx => h x hx
theorem countP_lt {p p' : Nat → Bool} {n i : Nat} (hi : i < n) (h1 : p i = true) (h2 : p' i = false) (h : ∀ j, p' j = true → p j = true) : (List.range n).countP p' < (List.range n).countP p := by
  induction n with
  | zero => omega
  | succ n ih =>
    rw [List.range_succ, List.countP_append, List.countP_append]
    by_cases e : i = n
    · subst e
      have := countP_le (n := i) h
      simp [h1, h2]
      omega
    · have := ih (by omega)
      have : [n].countP p' ≤ [n].countP p := List.countP_mono_left fun x _ hx => h x hx
      omega
theorem SRel.idle {k : K} {w w' : Wk} (h : SRel k w w') : idleN k w'.mark ≤ idleN k w.mark := countP_le fun j hj => by
  have := h.stat j
  simp only [beq_iff_eq] at hj ⊢
  omega
theorem pass_rel {k : K} {w : Wk} : ∀ n, n ≤ k.clauses.length → SRel k w (passTo k w n).1
  | 0, _ => SRel.refl k w
  | n + 1, hn => by
    have ih := pass_rel (k := k) (w := w) n (by omega)
    show SRel k w (if _ then _ else _ : Wk × Bool).1
    split
    · rename_i h
      exact ih.trans (SRel.one (by omega) h)
    · exact ih
theorem pass_none {k : K} {w : Wk} : ∀ n, (passTo k w n).2 = false → passTo k w n = (w, false) ∧ ∀ j, j < n → rdyB k w.mark j = false
  | 0, _ => ⟨rfl, fun j hj => absurd hj (Nat.not_lt_zero _)⟩
  | n + 1, h => by
    by_cases hr : rdyB k (passTo k w n).1.mark n = true
    · rw [passTo, if_pos hr] at h; cases h
    · rw [passTo, if_neg hr] at h ⊢
      obtain ⟨h1, h2⟩ := pass_none n h
      refine ⟨h1, fun j hj => ?_⟩
      by_cases hj' : j = n
      · subst hj'; rw [h1] at hr; simpa using hr
      · exact h2 j (by omega)
theorem pass_less {k : K} {w : Wk} : ∀ n, n ≤ k.clauses.length → (passTo k w n).2 = true → idleN k (passTo k w n).1.mark < idleN k w.mark
  | 0, _, h => by cases h
  | n + 1, hn, h => by
    have hrel := pass_rel (k := k) (w := w) n (by omega)
    by_cases hr : rdyB k (passTo k w n).1.mark n = true
    · rw [passTo, if_pos hr]
      have h1 := (rdyB_true hr).1
      refine Nat.lt_of_lt_of_le ?_ hrel.idle
      refine countP_lt (i := n) (by omega) (by simpa using h1) (by simp [Wk.upM, liveM]) fun j hj => ?_
      by_cases hj' : j = n
      · subst hj'; simpa using h1
      · simpa [Wk.upM, hj'] using hj
    · rw [passTo, if_neg hr] at h ⊢
      exact pass_less n (by omega) h
theorem startN_spec {k : K} : ∀ (f : Nat) (w : Wk), idleN k w.mark < f → SRel k w (startN k f w) ∧ ∀ i, i < k.clauses.length → rdyB k (startN k f w).mark i = false
  | 0, _, h => by omega
  | f + 1, w, h => by
    by_cases h2 : (passTo k w k.clauses.length).2 = true
    · rw [startN, if_pos h2]
      have h3 := pass_less k.clauses.length (Nat.le_refl _) h2
      obtain ⟨a, b⟩ := startN_spec (k := k) f (passTo k w k.clauses.length).1 (by omega)
      exact ⟨(pass_rel _ (Nat.le_refl _)).trans a, b⟩
    · rw [startN, if_neg h2]
      exact ⟨SRel.refl k w, (pass_none k.clauses.length (by simpa using h2)).2⟩
theorem startW_spec (k : K) (w : Wk) : SRel k w (startW k w) ∧ ∀ i, i < k.clauses.length → rdyB k (startW k w).mark i = false := startN_spec _ w (Nat.lt_succ_self _)
theorem mapRun_zero (f : Nat → Mk → Mk) (w : Wk) : mapRun f w 0 = w := by
  unfold mapRun
  simp
theorem mapRun_succ (f : Nat → Mk → Mk) (w : Wk) (n : Nat) : mapRun f w (n + 1) = if runsM (w.mark n) = true then (mapRun f w n).upM n (f n (w.mark n)) else mapRun f w n := by
  unfold mapRun Wk.upM
  split
  · rename_i h
    congr 1
    funext j
    by_cases hj : j = n
    · subst hj; simp [h]
    · have : (j < n + 1 ∧ runsM (w.mark j) = true) ↔ (j < n ∧ runsM (w.mark j) = true) := by constructor <;> (rintro ⟨a, b⟩; exact ⟨by omega, b⟩)
      simp only [if_neg hj, this]
  · rename_i h
    congr 1
    funext j
    have : (j < n + 1 ∧ runsM (w.mark j) = true) ↔ (j < n ∧ runsM (w.mark j) = true) := by
      constructor
      · rintro ⟨a, b⟩
        refine ⟨?_, b⟩
        by_cases hj : j = n
        · subst hj; exact absurd b h
        · omega
      · rintro ⟨a, b⟩; exact ⟨by omega, b⟩
    simp only [this]
theorem mapRun_mk {f : Nat → Mk → Mk} {w : Wk} {n i : Nat} (hi : i < n) : (mapRun f w n).mark i = if runsM (w.mark i) = true then f i (w.mark i) else w.mark i := by simp [mapRun, hi]
theorem mapRun_ge {f : Nat → Mk → Mk} {w : Wk} {n i : Nat} (hi : ¬ i < n) : (mapRun f w n).mark i = w.mark i := by simp [mapRun, hi]
end
section
open Go.Eng
theorem kindW {k : K} {x : Cl} (h : kindB k x = true) : (x.kind = 4 ∧ x.role = -1 ∧ x.need = 1 ∧ x.grace = 0 ∧ x.final = false) ∨
    ((0 ≤ x.role ∧ x.role < k.holders.length) ∧ natB k x.act = false ∧ ((x.kind = 1 ∧ (1 ≤ x.need ∧ x.need ≤ 9) ∧ 0 ≤ x.grace ∧ x.grace ≤ 400) ∨ (x.kind = 2 ∧ x.need = 1 ∧ x.grace = 0) ∨ (x.kind = 3 ∧ x.need = 1 ∧ x.grace = 0 ∧ x.final = false))) := by
  unfold kindB at h
  by_cases h4 : x.kind = 4
  · rw [if_pos h4] at h
    simp only [Bool.and_eq_true, beq_iff_eq, Bool.not_eq_true'] at h
    exact .inl ⟨h4, h.1.1.1, h.1.1.2, h.1.2, h.2⟩
  · rw [if_neg h4] at h
    by_cases h0 : (!movB k x.role || natB k x.act) = true
    · rw [if_pos h0] at h; cases h
    · rw [if_neg h0] at h
      simp only [Bool.or_eq_true, Bool.not_eq_true', not_or, Bool.not_eq_false, Bool.not_eq_true] at h0
      have hm := h0.1
      simp only [movB, Bool.and_eq_true, decide_eq_true_eq] at hm
      refine .inr ⟨hm, h0.2, ?_⟩
      by_cases h1 : x.kind = 1
      · rw [if_pos h1] at h
        simp only [Bool.and_eq_true, decide_eq_true_eq] at h
        exact .inl ⟨h1, h.1.1, h.1.2, h.2⟩
      · rw [if_neg h1] at h
        by_cases h2 : x.kind = 2
        · rw [if_pos h2] at h
          simp only [Bool.and_eq_true, beq_iff_eq] at h
          exact .inr (.inl ⟨h2, h⟩)
        · rw [if_neg h2] at h
          by_cases h3 : x.kind = 3
          · rw [if_pos h3] at h
            simp only [Bool.and_eq_true, beq_iff_eq, Bool.not_eq_true'] at h
            exact .inr (.inr ⟨h3, h.1.1, h.1.2, h.2⟩)
          · rw [if_neg h3] at h; cases h
theorem actF {k : K} {a : Act} (h : actB k a = true) : (a.role = -1 ∨ (0 ≤ a.role ∧ a.role < k.holders.length)) ∧ (a.kind = 1 ∧ a.give = 0 ∧ (a.to = -1 ∨ (0 ≤ a.to ∧ a.to < k.holders.length)) ∨
    (a.kind = 2 ∨ a.kind = 3) ∧ (0 ≤ a.role ∧ a.role < k.holders.length) ∧ (0 ≤ a.give ∧ a.give < k.holders.length) ∧ 0 ≤ a.to ∧ a.to < k.parties) := by
  unfold actB at h
  split at h
  · rename_i h1
    simp only [Bool.and_eq_true, beq_iff_eq, Bool.or_eq_true, movB, decide_eq_true_eq] at h
    exact ⟨.inl h.1.1.1.1.2, .inl ⟨h.1.1.1.1.1, h.1.1.1.2, h.1.1.2⟩⟩
  · rename_i h1
    simp only [movB, Bool.not_eq_true', Bool.not_eq_false, Bool.and_eq_true, decide_eq_true_eq] at h1
    refine ⟨.inr h1, ?_⟩
    split at h
    · rename_i h2
      split at h
      · cases h
      · rename_i h3
        simp only [not_or, not_and, Decidable.not_not, movB, Bool.not_eq_false, Bool.and_eq_true, decide_eq_true_eq] at h3
        refine .inl ⟨h2, h3.1, ?_⟩
        by_cases h4 : a.to = -1
        · exact .inl h4
        · exact .inr (h3.2 h4)
    · split at h
      · rename_i h2
        simp only [Bool.and_eq_true, movB, decide_eq_true_eq] at h
        exact .inr ⟨h2, h1, h.1.1.1.1, h.1.1.1.2, h.1.1.2⟩
      · cases h
structure RunF (k : K) (x : Cl) (m : Mk) : Prop where
  waived : x.waived = false
  left : 1 ≤ m.left
  pau : m.paused = true → x.pause ≠ -1
  got : m.got = 0 ∨ (x.kind = 1 ∧ 0 ≤ m.got ∧ m.got < x.need)
  bear : x.kind = 4 ∧ m.bearer = -1 ∨ x.kind ≠ 4 ∧ 0 ≤ m.bearer ∧ m.bearer < k.parties
  stat : m.status = 1 ∧ m.left ≤ x.after ∨ m.status = 2 ∧ x.kind = 1 ∧ m.left ≤ x.grace
theorem runB_iff {k : K} {x : Cl} {m : Mk} : runB k x m = true ↔ x.waived = false ∧ 1 ≤ m.left ∧ (m.paused = true → x.pause ≠ -1) ∧ (m.got = 0 ∨ (x.kind = 1 ∧ 0 ≤ m.got ∧ m.got < x.need)) ∧ (x.kind = 4 ∧ m.bearer = -1 ∨ x.kind ≠ 4 ∧ 0 ≤ m.bearer ∧ m.bearer < k.parties) := by
  unfold runB
  constructor
  · intro h
    split at h
    · cases h
    · rename_i h1
      simp only [Bool.or_eq_true, Bool.and_eq_true, decide_eq_true_eq, beq_iff_eq, not_or, not_and, Bool.not_eq_true] at h1
      split at h
      · cases h
      · rename_i h2
        simp only [Bool.or_eq_true, Bool.and_eq_true, decide_eq_true_eq, bne_iff_ne, ne_eq, not_or, not_and, Decidable.not_not] at h2
        refine ⟨h1.1.1, by omega, h1.2, ?_, ?_⟩
        · by_cases h3 : m.got = 0
          · exact .inl h3
          · have := h2 h3
            exact .inr ⟨this.1.1, by omega, by omega⟩
        · split at h
          · rename_i h4
            exact .inl ⟨h4, by simpa using h⟩
          · rename_i h4
            simp only [Bool.and_eq_true, decide_eq_true_eq] at h
            exact .inr ⟨h4, h⟩
  · rintro ⟨h1, h2, h3, h4, h5⟩
    rw [if_neg, if_neg]
    · rcases h5 with ⟨h5, h6⟩ | ⟨h5, h6⟩
      · rw [if_pos h5]; simpa using h6
      · rw [if_neg h5]; simpa using h6
    · simp only [Bool.or_eq_true, Bool.and_eq_true, decide_eq_true_eq, bne_iff_ne, ne_eq, not_and]
      omega
    · simp only [Bool.or_eq_true, Bool.and_eq_true, decide_eq_true_eq, beq_iff_eq, h1]
      rintro ((h | h) | ⟨h, h'⟩)
      · cases h
      · omega
      · exact h3 h h'
theorem runsM_iff {m : Mk} : runsM m = true ↔ m.status = 1 ∨ m.status = 2 := by simp [runsM]
theorem markB_run {k : K} {i : Nat} {m : Mk} (hr : runsM m = true) : markB k i m = true ↔ RunF k (clAt k i) m := by
  have hr := runsM_iff.1 hr
  unfold markB
  rw [if_neg (by omega)]
  by_cases h1 : m.status = 1
  · rw [if_pos h1]
    simp only [Bool.and_eq_true, decide_eq_true_eq, runB_iff]
    constructor
    · rintro ⟨a, b, c, d, e, f⟩; exact ⟨b, c, d, e, f, .inl ⟨h1, a⟩⟩
    · intro h; exact ⟨by have := h.stat; omega, h.waived, h.left, h.pau, h.got, h.bear⟩
  · rw [if_neg h1, if_pos (by omega)]
    simp only [Bool.and_eq_true, decide_eq_true_eq, beq_iff_eq, runB_iff]
    constructor
    · rintro ⟨⟨a, a'⟩, b, c, d, e, f⟩; exact ⟨b, c, d, e, f, .inr ⟨by omega, a, a'⟩⟩
    · intro h; exact ⟨⟨by have := h.stat; omega, by have := h.stat; omega⟩, h.waived, h.left, h.pau, h.got, h.bear⟩
theorem RunF.runs {k : K} {x : Cl} {m : Mk} (h : RunF k x m) : runsM m = true := runsM_iff.2 (by have := h.stat; omega)
theorem endF {k : K} {i : Nat} {m : Mk} {s : Int} (hg : 0 ≤ m.got ∧ m.got ≤ 9) (hb : -1 ≤ m.bearer ∧ m.bearer < k.parties) (hs : s = 3 ∨ s = 4 ∨ s = 5) : markB k i (endM m s) = true := by
  unfold markB
  rw [if_neg (by simp [endM]; omega), if_neg (by simp [endM]; omega), if_neg (by simp [endM]; omega), if_pos (by simpa [endM] using hs)]
  unfold endB
  simp only [Bool.and_eq_true, decide_eq_true_eq]
  exact ⟨⟨⟨⟨⟨rfl, hg.1⟩, hg.2⟩, hb.1⟩, hb.2⟩, rfl⟩
section
variable {k : K} (hk : KFacts k) {i : Nat} (hi : i < k.clauses.length) {m : Mk} (h : RunF k (clAt k i) m)
include hk hi h
theorem run_bd : (0 ≤ m.got ∧ m.got ≤ 9) ∧ (-1 ≤ m.bearer ∧ m.bearer < k.parties) ∧ ((clAt k i).kind = 1 → m.got + 1 ≤ 9) := by
  have hp := hk.parties
  have hg := h.got
  have hb := h.bear
  have hx := kindW (hk.clB hi).2.2.1
  rcases hx with hx | ⟨_, _, hx | hx | hx⟩ <;> omega
omit hk hi in
theorem pause_keep {a : Int} (ha : a ≠ -1) : RunF k (clAt k i) (pauseM k a i m) := by
  unfold pauseM
  split
  · exact ⟨h.waived, h.left, fun _ => by omega, h.got, h.bear, h.stat⟩
  · split
    · exact ⟨h.waived, h.left, (fun h => nomatch h), h.got, h.bear, h.stat⟩
    · exact h
omit hk hi in
theorem bear_keep {x : Act} (hx : 0 ≤ x.to ∧ x.to < k.parties) : RunF k (clAt k i) (bearM k x i m) := by
  unfold bearM
  split
  · rename_i h1
    exact ⟨h.waived, h.left, h.pau, h.got, .inr ⟨h1.1, hx⟩, h.stat⟩
  · exact h
theorem eff_keep {a by_ : Int} : markB k i (effM k a by_ i m) = true := by
  obtain ⟨b1, b2, b3⟩ := run_bd hk hi h
  unfold effM
  split
  · unfold doM
    split
    · rename_i h1
      have b3 := b3 h1
      unfold performM
      split
      · rename_i h2
        exact endF (m := moreM m) ⟨by show 0 ≤ m.got + 1; omega, by show m.got + 1 ≤ 9; omega⟩ b2 (.inl rfl)
      · rename_i h2
        have hx := kindW (hk.clB hi).2.2.1
        have hg := h.got
        have hn : RunF k (clAt k i) (moreM m) := ⟨h.waived, h.left, h.pau, .inr ⟨h1, by show 0 ≤ m.got + 1; omega, by show m.got + 1 < _; omega⟩, h.bear, h.stat⟩
        exact (markB_run hn.runs).2 hn
    · split
      · unfold violM
        split
        · exact (markB_run h.runs).2 h
        · exact endF b1 b2 (.inr (.inl rfl))
      · exact endF b1 b2 (.inl rfl)
  · exact (markB_run h.runs).2 h
theorem tick_keep {free : Bool} : markB k i (tickM k free i m) = true := by
  obtain ⟨b1, b2, b3⟩ := run_bd hk hi h
  unfold tickM
  split
  · exact (markB_run h.runs).2 h
  · rename_i h0
    split
    · unfold dayM
      split
      · rename_i h1
        unfold expM
        split
        · rename_i h2
          have hn : RunF k (clAt k i) ⟨2, (clAt k i).grace, (lessM m).got, (lessM m).bearer, (lessM m).paused⟩ := ⟨h.waived, by show 1 ≤ (clAt k i).grace; omega, h.pau, h.got, h.bear, .inr ⟨rfl, h1, Int.le_refl _⟩⟩
          exact (markB_run hn.runs).2 hn
        · exact endF (m := lessM m) b1 b2 (.inr (.inl rfl))
      · split
        · exact endF (m := lessM m) b1 b2 (.inl rfl)
        · exact endF (m := lessM m) b1 b2 (.inr (.inr rfl))
    · rename_i h1
      have hl := h.left
      have hn : RunF k (clAt k i) (lessM m) := ⟨h.waived, by show 1 ≤ m.left - 1; omega, h.pau, h.got, h.bear, by
        have hs := h.stat
        show m.status = 1 ∧ m.left - 1 ≤ _ ∨ m.status = 2 ∧ _ ∧ m.left - 1 ≤ _
        omega⟩
      exact (markB_run hn.runs).2 hn
end
structure POk (k : K) (w : Wk) : Prop where
  day : 0 ≤ w.day ∧ w.day ≤ k.days
  hold : ∀ i, i < k.holders.length → 0 ≤ w.hold i ∧ w.hold i < k.parties
  used : ∀ i, i < k.acts.length → w.used i = true → (acAt k i).kind ≠ 1
  mark : ∀ i, i < k.clauses.length → markB k i (w.mark i) = true
theorem WOk.pre {k : K} {w : Wk} (h : WOk k w) : POk k w := ⟨h.day, h.hold, h.used, h.mark⟩
theorem POk.map {k : K} {w : Wk} (h : POk k w) {f : Nat → Mk → Mk} (hf : ∀ i, i < k.clauses.length → RunF k (clAt k i) (w.mark i) → markB k i (f i (w.mark i)) = true) : POk k (mapRun f w k.clauses.length) := by
  refine ⟨h.day, h.hold, h.used, fun i hi => ?_⟩
  rw [mapRun_mk hi]
  split
  · rename_i hr
    exact hf i hi ((markB_run hr).1 (h.mark i hi))
  · exact h.mark i hi
theorem startW_keep {k : K} (hk : KFacts k) {w : Wk} (h : POk k w) : WOk k (startW k w) := by
  obtain ⟨h1, h2⟩ := startW_spec k w
  refine ⟨by rw [h1.day]; exact h.day, by rw [h1.hold]; exact h.hold, by rw [h1.used]; exact h.used, fun i hi => ?_, h2⟩
  rcases h1.mark i with e | ⟨_, e2, e3, e4, _⟩
  · rw [e]; exact h.mark i hi
  · rw [e4]
    have hb := hk.clB hi
    have hx := kindW hb.2.2.1
    have hn : RunF k (clAt k i) (liveM k w.hold i) := by
      refine ⟨e3, hb.2.1.1, (fun h => nomatch h), .inl rfl, ?_, .inl ⟨rfl, Int.le_refl _⟩⟩
      rcases hx with hx | ⟨hx, _⟩
      · exact .inl ⟨hx.1, by simp [liveM, hx.1]⟩
      · by_cases h4 : (clAt k i).kind = 4
        · exact .inl ⟨h4, by simp [liveM, h4]⟩
        · refine .inr ⟨h4, ?_⟩
          have := h.hold (clAt k i).role.toNat (by omega)
          simpa [liveM, h4] using this
    exact (markB_run hn.runs).2 hn
theorem tickW_keep {k : K} (hk : KFacts k) {w : Wk} (h : WOk k w) (hd : w.day < k.days) : WOk k (tickW k w) := by
  refine startW_keep hk ?_
  have := h.pre.map (f := tickM k (offD k w.day)) fun i hi hr => tick_keep hk hi hr
  exact ⟨by have := h.day; show 0 ≤ w.day + 1 ∧ w.day + 1 ≤ k.days; omega, this.hold, this.used, this.mark⟩
theorem preA_keep {k : K} (hk : KFacts k) {w : Wk} (h : WOk k w) (a : Nat) : POk k (preA k w a) := by
  have h1 := h.pre.map (f := pauseM k a) fun i hi hr => by
    have := pause_keep hr (a := a) (by omega)
    exact (markB_run this.runs).2 this
  exact h1.map fun i hi hr => eff_keep hk hi hr
theorem actW_keep {k : K} (hk : KFacts k) {w : Wk} (h : WOk k w) {a : Nat} (ha : a < k.acts.length) : WOk k (actW' k w a) := by
  unfold actW'
  split
  · exact h
  · refine startW_keep hk ?_
    have h1 := preA_keep hk h a
    have hx := (actF (hk.act a ha)).2
    unfold preG
    split
    · rename_i h2
      have hx : (acAt k a).kind = 2 ∨ (acAt k a).kind = 3 := by omega
      have hx2 : (0 ≤ (acAt k a).give ∧ (acAt k a).give < k.holders.length) ∧ 0 ≤ (acAt k a).to ∧ (acAt k a).to < k.parties := by omega
      have h3 : POk k (shiftW k (preA k w a) a) := by
        refine ⟨h1.day, fun i hi => ?_, fun i hi hu => ?_, h1.mark⟩
        · show 0 ≤ (if i = (acAt k a).give.toNat then (acAt k a).to else (preA k w a).hold i) ∧ (if i = (acAt k a).give.toNat then (acAt k a).to else (preA k w a).hold i) < k.parties
          split
          · exact hx2.2
          · exact h1.hold i hi
        · by_cases hia : i = a
          · subst hia; exact h2
          · refine h1.used i hi ?_
            have : (if i = a then true else (preA k w a).used i) = true := hu
            rwa [if_neg hia] at this
      unfold giveW
      split
      · exact h3
      · exact h3.map fun i hi hr => by
          have := bear_keep hr (x := acAt k a) hx2.2
          exact (markB_run this.runs).2 this
    · exact h1
theorem stepW_keep {k : K} (hk : KFacts k) {w : Wk} (h : WOk k w) {s : Int} (hs : -1 ≤ s ∧ s < k.acts.length) (hd : w.day < k.days) : WOk k (stepW k w s) := by
  unfold stepW
  split
  · exact tickW_keep hk h hd
  · exact actW_keep hk h (by omega)
def initM (x : Cl) : Mk := ⟨if x.waived then 5 else 0, 0, 0, -1, false⟩
def initW (k : K) : Wk := ⟨0, fun i => k.holders.getD i default, fun _ => false, fun i => initM (clAt k i)⟩
theorem initW_keep {k : K} (hk : KFacts k) (hh : ∀ i, i < k.holders.length → 0 ≤ k.holders.getD i default ∧ k.holders.getD i default < k.parties) : WOk k (startW k (initW k)) := by
  refine startW_keep hk ⟨⟨Int.le_refl _, by have := hk.days; show (0 : Int) ≤ _; omega⟩, hh, (fun i hi hu => nomatch hu), fun i hi => ?_⟩
  show markB k i (initM (clAt k i)) = true
  have hp := hk.parties
  unfold markB initM
  cases hw : (clAt k i).waived
  · simp [idleB]
  · simp [endB]; omega
end
section
open Go.Eng
end
end Go.Proofs.YtlcfoelfcnhenaaGreatDoor
