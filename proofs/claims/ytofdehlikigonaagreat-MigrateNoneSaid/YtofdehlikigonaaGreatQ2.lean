import Derived.Test.YtofdehlikigonaaGreatQ1
section
/- Contracts: package patch: copied, zero, fits. -/
namespace Go.Proofs.YtofdehlikigonaaGreat
open Go.Eng
set_option maxRecDepth 10000
set_option linter.unusedSimpArgs false
set_option linter.unusedVariables false
theorem clCopied_ok (k : Cl) (hs : k.start.length ≤ 1000000) : Does Tryz.prog 30 [clV k] (clV k) := by
  refine Does.mk (fun _ => false) TT_ok Tryz.func30 rfl (by kernel_rfl) Tryz.ntmps30 rfl rfl fun E hT hE hN hR => ?_
  have hm : E.P.follows .mixedOrders = true := by rw [hE]; kernel_rfl
  (repeat (first | refine XK.norm rfl rfl ?_ | refine XK.rgnA hT rfl rfl rfl ?_ | refine XK.rgnB hT hm rfl rfl rfl ?_)); refine XK.region ?_; refine XL.goA hT rfl rfl rfl rfl ?_
  refine XL.callKA hE rfl rfl rfl rfl trivial rfl rfl (cln_cnds k.start hs) ?_
  refine XL.goA hT rfl rfl rfl rfl ?_; refine XL.fin ?_; (repeat (first | refine XK.norm rfl rfl ?_ | refine XK.rgnA hT rfl rfl rfl ?_ | refine XK.rgnB hT hm rfl rfl rfl ?_))
  (first | refine XK.out rfl rfl rfl ?_ | refine XK.outN rfl rfl rfl ?_)
  rfl
theorem zeroCl_ok (k : Cl) : Does Tryz.prog 54 [clV k] (.c (.bool (zeroCl k))) := by
  refine Does.mk (fun _ => false) TT_ok Tryz.func54 rfl (by kernel_rfl) Tryz.ntmps54 rfl rfl fun E hT hE hN hR => ?_
  have hm : E.P.follows .mixedOrders = true := by rw [hE]; kernel_rfl
  (repeat (first | refine XK.norm rfl rfl ?_ | refine XK.rgnA hT rfl rfl rfl ?_ | refine XK.rgnB hT hm rfl rfl rfl ?_))
  (first | refine XK.out rfl rfl rfl ?_ | refine XK.outN rfl rfl rfl ?_)
  rfl
def efV (e : Ef) (f : Nat) : AV := .agg [.c (.int .i64 e.least), .c (.int .i64 e.most), .c (.bool e.renewed), .c (.bool e.spanned), .fn (.func f) [] []]
def lastAt (l : List Int) : Nat → Int
  | 0 => -1
  | i + 1 => l.getD i default
theorem incB_drop {n : Int} {l : List Int} {i : Nat} (hi : i < l.length) : incB n (lastAt l i) (l.drop i) = (decide (lastAt l i < l.getD i default) && decide (l.getD i default < n) && incB n (lastAt l (i + 1)) (l.drop (i + 1))) := by
  rw [List.drop_eq_getElem_cons hi]
  have e : l[i] = l.getD i default := by simp [List.getD, hi]
  rw [e]
  rfl
theorem fits_ok (k : K) (p : Pt) (hp : ptW p) (hl : p.clauses.length ≤ 1000000) (e : Ef) (f : Nat) : Does Tryz.prog 29 [kV k, ptV p, efV e f] (.c (.bool (fitsB k.clauses.length p e))) := by
  refine Does.mk (fun _ => false) TT_ok Tryz.func29 rfl (by kernel_rfl) Tryz.ntmps29 rfl rfl fun E hT hE hN hR => ?_
  have hm : E.P.follows .mixedOrders = true := by rw [hE]; kernel_rfl
  (repeat (first | refine XK.norm rfl rfl ?_ | refine XK.rgnA hT rfl rfl rfl ?_ | refine XK.rgnB hT hm rfl rfl rfl ?_)); refine XK.cond rfl (fun h1 => ?_) (fun h1 => ?_)
  · (repeat (first | refine XK.norm rfl rfl ?_ | refine XK.rgnA hT rfl rfl rfl ?_ | refine XK.rgnB hT hm rfl rfl rfl ?_))
    (first | refine XK.out rfl rfl rfl ?_ | refine XK.outN rfl rfl rfl ?_)
    refine cB ?_
    simp only [Bool.or_eq_true, decide_eq_true_eq] at h1
    have : (decide (e.least ≤ (p.clauses.length : Int)) && decide ((p.clauses.length : Int) ≤ e.most)) = false := by
      rw [Bool.and_eq_false_iff, decide_eq_false_iff_not, decide_eq_false_iff_not]; omega
    simp only [fitsB, this, Bool.false_and]
  · have hb : (decide (e.least ≤ (p.clauses.length : Int)) && decide ((p.clauses.length : Int) ≤ e.most)) = true := by
      simp only [Bool.or_eq_false_iff, decide_eq_false_iff_not] at h1
      rw [Bool.and_eq_true, decide_eq_true_eq, decide_eq_true_eq]; omega
    (repeat (first | refine XK.norm rfl rfl ?_ | refine XK.rgnA hT rfl rfl rfl ?_ | refine XK.rgnB hT hm rfl rfl rfl ?_))
    refine XK.loop (ι := Nat) (fun i => ST.of [(3, .rptr (kC k)), (4, .rptr (ptC p)), (5, .ptr 5 0), (7, .c (.int .i64 (lastAt p.clauses i))), (25, intsV p.clauses), (26, .c (.int .i64 p.clauses.length)), (27, .c (.int .i64 i))]
      [(5, .cells 81 [.c (.int .i64 e.least), .c (.int .i64 e.most), .c (.bool e.renewed), .c (.bool e.spanned), .fn (.func f) [] []])] 1000 65 (fun _ => false))
      (fun i => i ≤ p.clauses.length ∧ incB k.clauses.length (-1) p.clauses = incB k.clauses.length (lastAt p.clauses i) (p.clauses.drop i)) (fun i => p.clauses.length - i) 0 ⟨Nat.zero_le _, rfl⟩
      (Weak.trans (Weak.frozenC (k := 3) hN rfl rfl rfl) (Weak.trans (Weak.frozenC (k := 4) hN rfl rfl rfl) (Weak.of hN rfl rfl rfl (by (repeat' (first | exact rfl | exact AvIs.refl _ | exact trivial | exact fun _ _ => rfl | exact fun _ _ => ⟨rfl, AvIs.refl _⟩ | refine ⟨?_, ?_⟩))) (by (repeat' (first | exact rfl | exact AvIs.refl _ | exact trivial | exact fun _ _ => rfl | exact fun _ _ => ⟨rfl, AvIs.refl _⟩ | refine ⟨?_, ?_⟩)))))) fun i hi => ?_
    obtain ⟨hi, hc⟩ := hi
    (repeat (first | refine XK.norm rfl rfl ?_ | refine XK.rgnA hT rfl rfl rfl ?_ | refine XK.rgnB hT hm rfl rfl rfl ?_)); refine XK.cond rfl (fun hlt => ?_) (fun hlt => ?_) <;> (try simp at hlt)
    · have hd := incB_drop (n := k.clauses.length) hlt
      have fx : p.clauses.getD (i : Int).toNat default = p.clauses.getD i default := rfl
      have hls : lastAt p.clauses (i + 1) = p.clauses.getD i default := rfl
      rw [hls] at hd
      (repeat (first | refine XK.norm rfl rfl ?_ | refine XK.rgnA hT rfl rfl rfl ?_ | refine XK.rgnB hT hm rfl rfl rfl ?_))
      rw [fx]
      generalize p.clauses.getD i default = x at *
      (repeat (first | refine XK.norm rfl rfl ?_ | refine XK.rgnA hT rfl rfl rfl ?_ | refine XK.rgnB hT hm rfl rfl rfl ?_)); refine XK.cond rfl (fun h2 => ?_) (fun h2 => ?_)
      · (repeat (first | refine XK.norm rfl rfl ?_ | refine XK.rgnA hT rfl rfl rfl ?_ | refine XK.rgnB hT hm rfl rfl rfl ?_))
        (first | refine XK.out rfl rfl rfl ?_ | refine XK.outN rfl rfl rfl ?_)
        refine cB ?_
        have : (decide (lastAt p.clauses i < x) && decide (x < (k.clauses.length : Int))) = false := by
          simp only [Bool.or_eq_true, decide_eq_true_eq] at h2
          rw [Bool.and_eq_false_iff, decide_eq_false_iff_not, decide_eq_false_iff_not]; omega
        simp only [fitsB, hc, hd, this, Bool.and_false, Bool.false_and]
      · have h2' : (decide (lastAt p.clauses i < x) && decide (x < (k.clauses.length : Int))) = true := by
          simp only [Bool.or_eq_false_iff, decide_eq_false_iff_not] at h2
          rw [Bool.and_eq_true, decide_eq_true_eq, decide_eq_true_eq]; omega
        rw [h2', Bool.true_and] at hd
        (repeat (first | refine XK.norm rfl rfl ?_ | refine XK.rgnA hT rfl rfl rfl ?_ | refine XK.rgnB hT hm rfl rfl rfl ?_))
        exact XK.inv ⟨i + 1, ⟨hlt, by rw [hc, hd, hls]⟩, (by rw [hls]; exact (Weak.of hN rfl rfl rfl (by (repeat' (first | exact rfl | exact AvIs.refl _ | exact trivial | exact fun _ _ => rfl | exact fun _ _ => ⟨rfl, AvIs.refl _⟩ | refine ⟨?_, ?_⟩))) (by (repeat' (first | exact rfl | exact AvIs.refl _ | exact trivial | exact fun _ _ => rfl | exact fun _ _ => ⟨rfl, AvIs.refl _⟩ | refine ⟨?_, ?_⟩))))), by omega⟩
    · have hie : i = p.clauses.length := by omega
      subst hie
      have hc : incB k.clauses.length (-1) p.clauses = true := by rw [hc, List.drop_length]; rfl
      have zk := zeroCl_ok p.new
      (repeat (first | refine XK.norm rfl rfl ?_ | refine XK.rgnA hT rfl rfl rfl ?_ | refine XK.rgnB hT hm rfl rfl rfl ?_)); refine XK.region ?_; refine XL.goA hT rfl rfl rfl rfl ?_
      refine XL.callGA hE rfl rfl rfl rfl rfl rfl rfl rfl (zk) rfl ?_
      refine XL.goA hT rfl rfl rfl rfl ?_; refine XL.fin ?_; (repeat (first | refine XK.norm rfl rfl ?_ | refine XK.rgnA hT rfl rfl rfl ?_ | refine XK.rgnB hT hm rfl rfl rfl ?_))
      (repeat (first | refine XK.norm rfl rfl ?_ | refine XK.rgnA hT rfl rfl rfl ?_ | refine XK.rgnB hT hm rfl rfl rfl ?_)); refine XK.cond rfl (fun h3 => ?_) (fun h3 => ?_)
      · (repeat (first | refine XK.norm rfl rfl ?_ | refine XK.rgnA hT rfl rfl rfl ?_ | refine XK.rgnB hT hm rfl rfl rfl ?_))
        (first | refine XK.out rfl rfl rfl ?_ | refine XK.outN rfl rfl rfl ?_)
        refine cB ?_
        have : (e.renewed || zeroCl p.new) = false := by
          cases h4 : e.renewed <;> cases h5 : zeroCl p.new <;> simp_all
        simp only [fitsB, this, Bool.and_false, Bool.false_and]
      · have h3 : (e.renewed || zeroCl p.new) = true := by
          cases h4 : e.renewed <;> cases h5 : zeroCl p.new <;> simp_all
        have hf : fitsB k.clauses.length p e = if e.spanned then decide (1 ≤ p.days) && decide (p.days ≤ 400) else p.days == 0 := by
          simp only [fitsB, hb, hc, h3, Bool.true_and]
        (repeat (first | refine XK.norm rfl rfl ?_ | refine XK.rgnA hT rfl rfl rfl ?_ | refine XK.rgnB hT hm rfl rfl rfl ?_)); refine XK.cond rfl (fun h4 => ?_) (fun h4 => ?_)
        · (repeat (first | refine XK.norm rfl rfl ?_ | refine XK.rgnA hT rfl rfl rfl ?_ | refine XK.rgnB hT hm rfl rfl rfl ?_))
          (first | refine XK.out rfl rfl rfl ?_ | refine XK.outN rfl rfl rfl ?_)
          refine cB ?_
          rw [hf, if_pos (by simpa using h4)]
        · (repeat (first | refine XK.norm rfl rfl ?_ | refine XK.rgnA hT rfl rfl rfl ?_ | refine XK.rgnB hT hm rfl rfl rfl ?_))
          (first | refine XK.out rfl rfl rfl ?_ | refine XK.outN rfl rfl rfl ?_)
          refine cB ?_
          rw [hf, if_neg (by simpa using h4)]
end Go.Proofs.YtofdehlikigonaaGreat
end
section
/- Contracts: package patch: what the kinds of patches do. -/
namespace Go.Proofs.YtofdehlikigonaaGreat
open Go.Eng
set_option maxRecDepth 10000
set_option linter.unusedSimpArgs false
set_option linter.unusedVariables false
theorem catF_oneV {i : Nat} {f g h : Nat → List AV} (h0 : h 0 = g i) (hf : ∀ j, j < i → f j = g j) : ∀ j, j < i + 1 → catF i f h j = g j := by
  intro j hj
  unfold catF
  by_cases h1 : j < i
  · have : Nat.blt j i = true := by simpa using h1
    rw [this, cond_true]
    exact hf j h1
  · have : Nat.blt j i = false := by
      cases hb : Nat.blt j i with
      | false => rfl
      | true => simp at hb; exact absurd hb h1
    have e : j = i := by omega
    rw [this, cond_false, e, Nat.sub_self, h0]
def clsO (s : Nat) (cs : List Cl) : Ob := .vec 32 16 s cs.length (fun i => clC (cs.getD i default))
theorem getD_setA {α : Type} [Inhabited α] (l : List α) (i j : Nat) (x : α) (hi : i < l.length) : (l.set i x).getD j default = if j = i then x else l.getD j default := by
  simp only [List.getD_eq_getElem?_getD, List.getElem?_set]
  by_cases h : i = j
  · subst h; simp [hi]
  · rw [if_neg h, if_neg (fun h' => h h'.symm)]
theorem setRow_cls {cs : List Cl} {x : Nat} (hx : x < cs.length) {off : Nat} {c : List AV} {y : Cl} (hc : setL (clC (cs.getD x default)) off c = clC y) : ∀ j, clC ((cs.set x y).getD j default) = setRowF (fun i => clC (cs.getD i default)) x off c j := by
  intro j
  rw [getD_setA _ _ _ _ hx]
  unfold setRowF
  by_cases h : j = x
  · subst h; rw [if_pos rfl, show Nat.beq j j = true by simp]; exact hc.symm
  · rw [if_neg h, beq_false h]; rfl
def waive1 (cs : List Cl) (i : Int) : List Cl := cs.set i.toNat { cs.getD i.toNat default with waived := true }
def span1 (d : Int) (cs : List Cl) (i : Int) : List Cl := cs.set i.toNat { cs.getD i.toNat default with after := d }
theorem waive_len (cs : List Cl) (l : List Int) : (waiveL cs l).length = cs.length := by
  unfold waiveL
  induction l generalizing cs with
  | nil => rfl
  | cons i l ih => rw [List.foldl_cons, ih, List.length_set]
theorem span_len (d : Int) (cs : List Cl) (l : List Int) : (spanL d cs l).length = cs.length := by
  unfold spanL
  induction l generalizing cs with
  | nil => rfl
  | cons i l ih => rw [List.foldl_cons, ih, List.length_set]
theorem take_snoc (l : List Int) {i : Nat} (hi : i < l.length) : l.take (i + 1) = l.take i ++ [l.getD i default] := by
  rw [List.take_add_one, List.getElem?_eq_getElem hi]; simp [List.getD, hi]
theorem waive_take (cs : List Cl) (l : List Int) {i : Nat} (hi : i < l.length) : waiveL cs (l.take (i + 1)) = waive1 (waiveL cs (l.take i)) (l.getD i default) := by
  rw [take_snoc l hi]; unfold waiveL; rw [List.foldl_append]; rfl
theorem span_take (d : Int) (cs : List Cl) (l : List Int) {i : Nat} (hi : i < l.length) : spanL d cs (l.take (i + 1)) = span1 d (spanL d cs (l.take i)) (l.getD i default) := by
  rw [take_snoc l hi]; unfold spanL; rw [List.foldl_append]; rfl
def idxOk (n : Nat) (l : List Int) : Prop := ∀ i, i < l.length → 0 ≤ l.getD i default ∧ l.getD i default < n
theorem eff1_ok (cs : List Cl) (p : Pt) (hp : ptW p) (hx : idxOk cs.length p.clauses) (hl : p.clauses.length ≤ 1000000) (hn : cs.length ≤ 1000000) :
    DoesM Tryz.prog 50 [.vec 0 0, ptV p] [clsO 0 cs] (.vec 0 1) [clsO 1 (waiveL cs p.clauses)] := by
  refine DoesM.mk (fun _ => false) 100 TT_ok Tryz.func50 rfl (by kernel_rfl) Tryz.ntmps50 rfl rfl rfl fun E hT hE hN hR => ?_
  have hm : E.P.follows .mixedOrders = true := by rw [hE]; kernel_rfl
  (repeat (first | refine XK.norm rfl rfl ?_ | refine XK.rgnA hT rfl rfl rfl ?_ | refine XK.rgnB hT hm rfl rfl rfl ?_))
  refine XK.loop (ι := Nat) (fun i => ST.of [(0, .vec 0 0), (3, .rptr (ptC p)), (8, intsV p.clauses), (9, .c (.int .i64 p.clauses.length)), (10, .c (.int .i64 i))] [(0, clsO 0 (waiveL cs (p.clauses.take i)))] 1000 20 (fun _ => false))
    (fun i => i ≤ p.clauses.length) (fun i => p.clauses.length - i) 0 (Nat.zero_le _) (Weak.trans (Weak.frozenC (k := 103) hN rfl rfl rfl) (Weak.of hN rfl rfl rfl (by (repeat' (first | exact rfl | exact AvIs.refl _ | exact trivial | exact fun _ _ => rfl | exact fun _ _ => ⟨rfl, AvIs.refl _⟩ | refine ⟨?_, ?_⟩))) (by (repeat' (first | exact rfl | exact AvIs.refl _ | exact trivial | exact fun _ _ => rfl | exact fun _ _ => ⟨rfl, AvIs.refl _⟩ | refine ⟨?_, ?_⟩))))) fun i hi => ?_
  have hlen := waive_len cs (p.clauses.take i)
  (repeat (first | refine XK.norm rfl rfl ?_ | refine XK.rgnA hT rfl rfl rfl ?_ | refine XK.rgnB hT hm rfl rfl rfl ?_)); refine XK.cond rfl (fun hlt => ?_) (fun hlt => ?_) <;> (try simp at hlt)
  · have hxi := hx i hlt
    have ht := waive_take cs p.clauses hlt
    have fx : p.clauses.getD (i : Int).toNat default = p.clauses.getD i default := rfl
    generalize waiveL cs (p.clauses.take i) = c1 at *
    unfold clsO
    (repeat (first | refine XK.norm rfl rfl ?_ | refine XK.rgnA hT rfl rfl rfl ?_ | refine XK.rgnB hT hm rfl rfl rfl ?_))
    rw [fx]
    have hxc : (p.clauses.getD i default).toNat < c1.length := by omega
    refine XK.inv ⟨i + 1, hlt, Weak.of hN rfl rfl rfl (by (repeat' (first | exact rfl | exact AvIs.refl _ | exact trivial | exact fun _ _ => rfl | exact fun _ _ => ⟨rfl, AvIs.refl _⟩ | exact cI (by omega) | refine ⟨?_, ?_⟩))) ⟨⟨rfl, rfl, rfl⟩, ?_, fun j hj => ?_⟩, by omega⟩
    · rw [ht, waive1, List.length_set]
    · rw [ht, waive1]
      exact setRow_cls hxc rfl j
  · have hie : i = p.clauses.length := by omega
    subst hie
    rw [List.take_length]
    (repeat (first | refine XK.norm rfl rfl ?_ | refine XK.rgnA hT rfl rfl rfl ?_ | refine XK.rgnB hT hm rfl rfl rfl ?_))
    refine XK.weak (Weak.stamp (k := 0) (t := 1) hN rfl rfl) ?_
    (first | refine XK.outR [0] hN rfl rfl rfl ?_ rfl rfl ?_ | refine XK.outRN [0] hN rfl rfl rfl ?_ rfl rfl ?_)
    · (repeat' (first | exact rfl | exact AvIs.refl _ | exact trivial | exact fun _ _ => rfl | exact fun _ _ => ⟨rfl, AvIs.refl _⟩ | refine ⟨?_, ?_⟩))
    · (repeat' (first | exact rfl | exact AvIs.refl _ | exact trivial | exact fun _ _ => rfl | exact fun _ _ => ⟨rfl, AvIs.refl _⟩ | refine ⟨?_, ?_⟩))
theorem eff4_ok (cs : List Cl) (p : Pt) (hp : ptW p) (hx : idxOk cs.length p.clauses) (hl : p.clauses.length ≤ 1000000) (hn : cs.length ≤ 1000000) :
    DoesM Tryz.prog 53 [.vec 0 0, ptV p] [clsO 0 cs] (.vec 0 1) [clsO 1 (spanL p.days cs p.clauses)] := by
  refine DoesM.mk (fun _ => false) 100 TT_ok Tryz.func53 rfl (by kernel_rfl) Tryz.ntmps53 rfl rfl rfl fun E hT hE hN hR => ?_
  have hm : E.P.follows .mixedOrders = true := by rw [hE]; kernel_rfl
  (repeat (first | refine XK.norm rfl rfl ?_ | refine XK.rgnA hT rfl rfl rfl ?_ | refine XK.rgnB hT hm rfl rfl rfl ?_))
  refine XK.loop (ι := Nat) (fun i => ST.of [(0, .vec 0 0), (3, .rptr (ptC p)), (8, intsV p.clauses), (9, .c (.int .i64 p.clauses.length)), (10, .c (.int .i64 i))] [(0, clsO 0 (spanL p.days cs (p.clauses.take i)))] 1000 22 (fun _ => false))
    (fun i => i ≤ p.clauses.length) (fun i => p.clauses.length - i) 0 (Nat.zero_le _) (Weak.trans (Weak.frozenC (k := 103) hN rfl rfl rfl) (Weak.of hN rfl rfl rfl (by (repeat' (first | exact rfl | exact AvIs.refl _ | exact trivial | exact fun _ _ => rfl | exact fun _ _ => ⟨rfl, AvIs.refl _⟩ | refine ⟨?_, ?_⟩))) (by (repeat' (first | exact rfl | exact AvIs.refl _ | exact trivial | exact fun _ _ => rfl | exact fun _ _ => ⟨rfl, AvIs.refl _⟩ | refine ⟨?_, ?_⟩))))) fun i hi => ?_
  have hlen := span_len p.days cs (p.clauses.take i)
  (repeat (first | refine XK.norm rfl rfl ?_ | refine XK.rgnA hT rfl rfl rfl ?_ | refine XK.rgnB hT hm rfl rfl rfl ?_)); refine XK.cond rfl (fun hlt => ?_) (fun hlt => ?_) <;> (try simp at hlt)
  · have hxi := hx i hlt
    have ht := span_take p.days cs p.clauses hlt
    have fx : p.clauses.getD (i : Int).toNat default = p.clauses.getD i default := rfl
    generalize spanL p.days cs (p.clauses.take i) = c1 at *
    unfold clsO
    (repeat (first | refine XK.norm rfl rfl ?_ | refine XK.rgnA hT rfl rfl rfl ?_ | refine XK.rgnB hT hm rfl rfl rfl ?_))
    rw [fx]
    have hxc : (p.clauses.getD i default).toNat < c1.length := by omega
    refine XK.inv ⟨i + 1, hlt, Weak.of hN rfl rfl rfl (by (repeat' (first | exact rfl | exact AvIs.refl _ | exact trivial | exact fun _ _ => rfl | exact fun _ _ => ⟨rfl, AvIs.refl _⟩ | exact cI (by omega) | refine ⟨?_, ?_⟩))) ⟨⟨rfl, rfl, rfl⟩, ?_, fun j hj => ?_⟩, by omega⟩
    · rw [ht, span1, List.length_set]
    · rw [ht, span1]
      exact setRow_cls hxc rfl j
  · have hie : i = p.clauses.length := by omega
    subst hie
    rw [List.take_length]
    (repeat (first | refine XK.norm rfl rfl ?_ | refine XK.rgnA hT rfl rfl rfl ?_ | refine XK.rgnB hT hm rfl rfl rfl ?_))
    refine XK.weak (Weak.stamp (k := 0) (t := 1) hN rfl rfl) ?_
    (first | refine XK.outR [0] hN rfl rfl rfl ?_ rfl rfl ?_ | refine XK.outRN [0] hN rfl rfl rfl ?_ rfl rfl ?_)
    · (repeat' (first | exact rfl | exact AvIs.refl _ | exact trivial | exact fun _ _ => rfl | exact fun _ _ => ⟨rfl, AvIs.refl _⟩ | refine ⟨?_, ?_⟩))
    · (repeat' (first | exact rfl | exact AvIs.refl _ | exact trivial | exact fun _ _ => rfl | exact fun _ _ => ⟨rfl, AvIs.refl _⟩ | refine ⟨?_, ?_⟩))
theorem eff2_ok (cs : List Cl) (p : Pt) (hs : p.new.start.length ≤ 1000000) (hn : cs.length ≤ 1000000) :
    DoesM Tryz.prog 51 [.vec 0 0, ptV p] [clsO 0 cs] (.vec 0 1) [clsO 1 (cs ++ [p.new])] := by
  refine DoesM.mk (fun _ => false) 100 TT_ok Tryz.func51 rfl (by kernel_rfl) Tryz.ntmps51 rfl rfl rfl fun E hT hE hN hR => ?_
  have hm : E.P.follows .mixedOrders = true := by rw [hE]; kernel_rfl
  unfold clsO
  (repeat (first | refine XK.norm rfl rfl ?_ | refine XK.rgnA hT rfl rfl rfl ?_ | refine XK.rgnB hT hm rfl rfl rfl ?_)); refine XK.region ?_; refine XL.goA hT rfl rfl rfl rfl ?_
  refine XL.callKA hE rfl rfl rfl rfl trivial rfl rfl (clCopied_ok p.new hs) ?_
  refine XL.goA hT rfl rfl rfl rfl ?_; refine XL.fin ?_; (repeat (first | refine XK.norm rfl rfl ?_ | refine XK.rgnA hT rfl rfl rfl ?_ | refine XK.rgnB hT hm rfl rfl rfl ?_))
  refine XK.weak (Weak.of (L := [(4, .vec 0 1)]) (O := [(0, .vec 32 16 1 (cs ++ [p.new]).length (fun i => clC ((cs ++ [p.new]).getD i default)))]) (nx := 1000) (nt := 11) (md := fun _ => false) hN rfl rfl rfl (by (repeat' (first | exact rfl | exact AvIs.refl _ | exact trivial | exact fun _ _ => rfl | exact fun _ _ => ⟨rfl, AvIs.refl _⟩ | refine ⟨?_, ?_⟩)))
    ⟨⟨rfl, rfl, rfl⟩, by simp, fun j hj => (catF_oneV (g := fun i => clC ((cs ++ [p.new]).getD i default)) ?_ (fun k hk => ?_) j hj).symm⟩) ?_
  · show clC p.new = clC ((cs ++ [p.new]).getD cs.length default)
    simp [List.getD]
  · show clC (cs.getD k default) = clC ((cs ++ [p.new]).getD k default)
    simp [List.getD, List.getElem?_append_left hk]
  (first | refine XK.outR [0] hN rfl rfl rfl ?_ rfl rfl ?_ | refine XK.outRN [0] hN rfl rfl rfl ?_ rfl rfl ?_)
  · (repeat' (first | exact rfl | exact AvIs.refl _ | exact trivial | exact fun _ _ => rfl | exact fun _ _ => ⟨rfl, AvIs.refl _⟩ | refine ⟨?_, ?_⟩))
  · (repeat' (first | exact rfl | exact AvIs.refl _ | exact trivial | exact fun _ _ => rfl | exact fun _ _ => ⟨rfl, AvIs.refl _⟩ | refine ⟨?_, ?_⟩))
theorem eff3_ok (cs : List Cl) (p : Pt) (hs : p.new.start.length ≤ 1000000) (h0 : 0 < p.clauses.length) (hx : idxOk cs.length p.clauses) (hn : cs.length ≤ 1000000) :
    DoesM Tryz.prog 52 [.vec 0 0, ptV p] [clsO 0 cs] (.vec 0 1) [clsO 1 (cs.set (p.clauses.getD 0 default).toNat p.new)] := by
  have hx0 := hx 0 h0
  refine DoesM.mk (fun _ => false) 100 TT_ok Tryz.func52 rfl (by kernel_rfl) Tryz.ntmps52 rfl rfl rfl fun E hT hE hN hR => ?_
  have hm : E.P.follows .mixedOrders = true := by rw [hE]; kernel_rfl
  unfold clsO
  (repeat (first | refine XK.norm rfl rfl ?_ | refine XK.rgnA hT rfl rfl rfl ?_ | refine XK.rgnB hT hm rfl rfl rfl ?_)); refine XK.drawn hm ?_; refine XD.goA hT rfl rfl rfl rfl ?_
  refine XD.callKA hE rfl rfl rfl rfl trivial rfl rfl (clCopied_ok p.new hs) ?_
  refine XD.goA hT rfl rfl rfl rfl ?_; refine XD.fin (by kernel_rfl) ?_; (repeat (first | refine XK.norm rfl rfl ?_ | refine XK.rgnA hT rfl rfl rfl ?_ | refine XK.rgnB hT hm rfl rfl rfl ?_))
  have f0 : p.clauses.getD (Int.toNat 0) default = p.clauses.getD 0 default := rfl
  rw [f0]
  have hxc : (p.clauses.getD 0 default).toNat < cs.length := by omega
  refine XK.weak (Weak.of (L := [(4, .vec 0 0)]) (O := [(0, .vec 32 16 0 (cs.set (p.clauses.getD 0 default).toNat p.new).length (fun i => clC ((cs.set (p.clauses.getD 0 default).toNat p.new).getD i default)))]) (nx := 1000) (nt := 15) (md := fun _ => false) hN rfl rfl rfl (by (repeat' (first | exact rfl | exact AvIs.refl _ | exact trivial | exact fun _ _ => rfl | exact fun _ _ => ⟨rfl, AvIs.refl _⟩ | refine ⟨?_, ?_⟩)))
    ⟨⟨rfl, rfl, rfl⟩, by rw [List.length_set], fun j hj => setRow_cls hxc rfl j⟩) ?_
  refine XK.weak (Weak.stamp (k := 0) (t := 1) hN rfl rfl) ?_
  (first | refine XK.outR [0] hN rfl rfl rfl ?_ rfl rfl ?_ | refine XK.outRN [0] hN rfl rfl rfl ?_ rfl rfl ?_)
  · (repeat' (first | exact rfl | exact AvIs.refl _ | exact trivial | exact fun _ _ => rfl | exact fun _ _ => ⟨rfl, AvIs.refl _⟩ | refine ⟨?_, ?_⟩))
  · (repeat' (first | exact rfl | exact AvIs.refl _ | exact trivial | exact fun _ _ => rfl | exact fun _ _ => ⟨rfl, AvIs.refl _⟩ | refine ⟨?_, ?_⟩))
end Go.Proofs.YtofdehlikigonaaGreat
end
section
/- Contracts: package patch: effects. -/
namespace Go.Proofs.YtofdehlikigonaaGreat
open Go.Eng
set_option maxRecDepth 10000
set_option linter.unusedSimpArgs false
set_option linter.unusedVariables false
def effFn (n : Int) : Nat := if n = 1 then 51 else if n = 2 then 52 else if n = 5 then 53 else 50
def effAt (n : Int) : AV := match efOf n with
  | some e => efV e (effFn n)
  | none => .agg [.c (.int .i64 0), .c (.int .i64 0), .c (.bool false), .c (.bool false), .c .nilFunc]
def effDom (v : Value) : Bool := match v with
  | .int .i64 n => (efOf n).isSome
  | _ => false
def effVal (v : Value) : AV := match v with
  | .int .i64 n => effAt n
  | _ => .junk
def effO : Ob := .mapb (.int .i64) ty81.zv effDom effVal
theorem ke (n m : Int) (h : n ≠ m) : keyEq (.int .i64 n) (.int .i64 m) = false := by simp [keyEq, h]
theorem effects_ok : DoesM Tryz.prog 28 [] [] (.mp 0) [effO] := by
  refine DoesM.mk (fun _ => false) 100 TT_ok Tryz.func28 rfl (by kernel_rfl) Tryz.ntmps28 rfl rfl rfl fun E hT hE hN hR => ?_
  have hm : E.P.follows .mixedOrders = true := by rw [hE]; kernel_rfl
  (repeat (first | refine XK.norm rfl rfl ?_ | refine XK.rgnA hT rfl rfl rfl ?_ | refine XK.rgnB hT hm rfl rfl rfl ?_))
  refine XK.weak (Weak.of (L := [(0, .mp 124)]) (O := [(124, effO)]) (nx := 1000) (nt := 11) (md := fun _ => false) hN rfl rfl rfl rfl ⟨rfl, rfl, fun z hz => ?_⟩) ?_
  · have : ∃ n, z = .int .i64 n := by
      cases z <;> simp [KK.has] at hz
      subst hz; exact ⟨_, rfl⟩
    obtain ⟨n, rfl⟩ := this
    by_cases h1 : n = 1
    · subst h1; exact ⟨rfl, rfl⟩
    by_cases h2 : n = 2
    · subst h2; exact ⟨rfl, rfl⟩
    by_cases h3 : n = 3
    · subst h3; exact ⟨rfl, rfl⟩
    by_cases h4 : n = 4
    · subst h4; exact ⟨rfl, rfl⟩
    by_cases h5 : n = 5
    · subst h5; exact ⟨rfl, rfl⟩
    have e : efOf n = none := by simp [efOf, h1, h2, h3, h4, h5]
    dsimp only [effDom, effVal, effAt]
    rw [e, ke n 1 h1, ke n 2 h2, ke n 3 h3, ke n 4 h4, ke n 5 h5]
    exact ⟨rfl, rfl⟩
  · (first | refine XK.outR [124] hN rfl rfl rfl ?_ rfl rfl ?_ | refine XK.outRN [124] hN rfl rfl rfl ?_ rfl rfl ?_)
    · (repeat' (first | exact rfl | exact AvIs.refl _ | exact trivial | exact fun _ _ => rfl | exact fun _ _ => ⟨rfl, AvIs.refl _⟩ | refine ⟨?_, ?_⟩))
    · (repeat' (first | exact rfl | exact AvIs.refl _ | exact trivial | exact fun _ _ => rfl | exact fun _ _ => ⟨rfl, AvIs.refl _⟩ | refine ⟨?_, ?_⟩))
theorem eff_ok (cs : List Cl) (p : Pt) (hp : ptW p) {e : Ef} (he : efOf p.kind = some e) (hx : idxOk cs.length p.clauses) (h2 : p.kind = 2 → 0 < p.clauses.length) (hl : p.clauses.length ≤ 1000000) (hs : p.new.start.length ≤ 1000000) (hn : cs.length ≤ 1000000) :
    DoesM Tryz.prog (effFn p.kind) [.vec 0 0, ptV p] [clsO 0 cs] (.vec 0 1) [clsO 1 (doP cs p)] := by
  unfold effFn doP
  by_cases k1 : p.kind = 1
  · rw [if_pos k1, if_pos k1]; exact eff2_ok cs p hs hn
  rw [if_neg k1, if_neg k1]
  by_cases k2 : p.kind = 2
  · rw [if_pos k2, if_pos k2]; exact eff3_ok cs p hs (h2 k2) hx hn
  rw [if_neg k2, if_neg k2]
  by_cases k5 : p.kind = 5
  · rw [if_pos k5, if_pos k5]; exact eff4_ok cs p hp hx hl hn
  rw [if_neg k5, if_neg k5]
  exact eff1_ok cs p hp hx hl hn
theorem doP_len {cs : List Cl} {p : Pt} : (doP cs p).length ≤ cs.length + 1 := by
  unfold doP
  split
  · simp
  · split
    · simp
    · split
      · rw [span_len]; omega
      · rw [waive_len]; omega
theorem mem_set_or {α : Type} {l : List α} {i : Nat} {x y : α} (h : y ∈ l.set i x) : y ∈ l ∨ y = x := List.mem_or_eq_of_mem_set h
theorem getD_W {cs : List Cl} (h : ∀ x ∈ cs, clW x) (i : Nat) : clW (cs.getD i default) := by
  by_cases hi : i < cs.length
  · simp only [List.getD_eq_getElem?_getD, List.getElem?_eq_getElem hi, Option.getD_some]
    exact h _ (List.getElem_mem hi)
  · rw [List.getD_eq_getElem?_getD, List.getElem?_eq_none (by omega), Option.getD_none]
    refine ⟨?_, ?_, ?_, ?_, fun x hx => (by cases hx), ?_, ?_, ?_, ?_, ⟨?_, ?_⟩, ?_, ?_⟩ <;> (show _ ≤ _ ∧ _ ≤ _; decide)
theorem waive_W {l : List Int} : ∀ {cs : List Cl}, (∀ x ∈ cs, clW x) → ∀ x ∈ waiveL cs l, clW x := by
  unfold waiveL
  induction l with
  | nil => exact fun h => h
  | cons i l ih =>
    intro cs h
    rw [List.foldl_cons]
    refine ih fun x hx => ?_
    rcases mem_set_or hx with hx | rfl
    · exact h x hx
    · exact getD_W h _
theorem span_W {d : Int} (hd : inK .i64 d) {l : List Int} : ∀ {cs : List Cl}, (∀ x ∈ cs, clW x) → ∀ x ∈ spanL d cs l, clW x := by
  unfold spanL
  induction l with
  | nil => exact fun h => h
  | cons i l ih =>
    intro cs h
    rw [List.foldl_cons]
    refine ih fun x hx => ?_
    rcases mem_set_or hx with hx | rfl
    · exact h x hx
    · obtain ⟨a, b, c, d', e, f, g⟩ := getD_W h i.toNat
      exact ⟨a, b, c, d', e, hd, g⟩
theorem doP_W {cs : List Cl} {p : Pt} (hp : ptW p) (h : ∀ x ∈ cs, clW x) : ∀ x ∈ doP cs p, clW x := by
  unfold doP
  split
  · intro x hx
    rcases List.mem_append.1 hx with hx | hx
    · exact h x hx
    · rw [List.mem_singleton] at hx; subst hx; exact hp.2.2.1
  · split
    · intro x hx
      rcases mem_set_or hx with hx | rfl
      · exact h x hx
      · exact hp.2.2.1
    · split
      · exact span_W hp.2.2.2 h
      · exact waive_W h
end Go.Proofs.YtofdehlikigonaaGreat
end
