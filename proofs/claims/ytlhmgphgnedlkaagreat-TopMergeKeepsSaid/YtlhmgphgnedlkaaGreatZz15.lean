import Derived.Test.YtlhmgphgnedlkaaGreatZz13
import Derived.Test.YtlhmgphgnedlkaaGreatZz14
import Derived.Test.YtlhmgphgnedlkaaGreatZz11
section
/- Contracts: package patch: copied, zero, fits. -/
namespace Go.Proofs.YtlhmgphgnedlkaaGreat
open Go.Eng
set_option maxRecDepth 10000
theorem clCopied_ok (k : Cl) (hs : k.start.length ≤ 1000000) : Does Tryz.prog 36 [clV k] (clV k) := by
  refine Does.mk (fun _ => false) TT_ok Tryz.func36 rfl (by kernel_rfl) Tryz.ntmps36 rfl rfl fun E hT hE hN hR => ?_
  have hm := mixO hE
  (repeat (first | refine XK.n ?_ | refine XK.a ?_ | refine XK.b ?_)); refine XK.region ?_; refine XL.g ?_
  refine XL.callKA hE rfl rfl rfl rfl trivial rfl rfl (cln_cnds k.start hs) ?_
  refine XL.g ?_; refine XL.fin ?_; (repeat (first | refine XK.n ?_ | refine XK.a ?_ | refine XK.b ?_))
  (first | refine XK.out rfl rfl rfl ?_ | refine XK.outN rfl rfl rfl ?_)
  rfl
theorem zeroCl_ok (k : Cl) : Does Tryz.prog 67 [clV k] (.c (.bool (zeroCl k))) := by
  refine Does.mk (fun _ => false) TT_ok Tryz.func67 rfl (by kernel_rfl) Tryz.ntmps67 rfl rfl fun E hT hE hN hR => ?_
  have hm := mixO hE
  (repeat (first | refine XK.n ?_ | refine XK.a ?_ | refine XK.b ?_))
  (first | refine XK.out rfl rfl rfl ?_ | refine XK.outN rfl rfl rfl ?_)
  rfl
def efV (e : Ef) (f : Nat) : AV := .agg [.c (.int .i64 e.least), .c (.int .i64 e.most), .c (.bool e.renewed), .c (.bool e.spanned), .fn (.func f) [] []]
def lastAt (l : List Int) : Nat → Int
  | 0 => -1
  | i + 1 => l.getD i default
theorem incB_drop {n : Int} {l : List Int} {i : Nat} (hi : i < l.length) : incB n (lastAt l i) (l.drop i) = (decide (lastAt l i < l.getD i default) && decide (l.getD i default < n) && incB n (lastAt l (i + 1)) (l.drop (i + 1))) := by
  rw [List.drop_eq_getElem_cons hi]
  have e : l[i] = l.getD i default := by simp [List.getD, hi]
  rw [e]
  rfl
theorem fits_ok (k : K) (p : Pt) (hp : ptW p) (hl : p.clauses.length ≤ 1000000) (e : Ef) (f : Nat) : Does Tryz.prog 35 [kV k, ptV p, efV e f] (.c (.bool (fitsB k.clauses.length p e))) := by
  refine Does.mk (fun _ => false) TT_ok Tryz.func35 rfl (by kernel_rfl) Tryz.ntmps35 rfl rfl fun E hT hE hN hR => ?_
  have hm := mixO hE
  (repeat (first | refine XK.n ?_ | refine XK.a ?_ | refine XK.b ?_)); refine XK.cond rfl (fun h1 => ?_) (fun h1 => ?_)
  · (repeat (first | refine XK.n ?_ | refine XK.a ?_ | refine XK.b ?_))
    (first | refine XK.out rfl rfl rfl ?_ | refine XK.outN rfl rfl rfl ?_)
    refine cB ?_
    simp only [Bool.or_eq_true, decide_eq_true_eq] at h1
    have : (decide (e.least ≤ (p.clauses.length : Int)) && decide ((p.clauses.length : Int) ≤ e.most)) = false := by
      rw [Bool.and_eq_false_iff, decide_eq_false_iff_not, decide_eq_false_iff_not]; omega
    simp only [fitsB, this, Bool.false_and]
  · have hb : (decide (e.least ≤ (p.clauses.length : Int)) && decide ((p.clauses.length : Int) ≤ e.most)) = true := by
      simp only [Bool.or_eq_false_iff, decide_eq_false_iff_not] at h1
      rw [Bool.and_eq_true, decide_eq_true_eq, decide_eq_true_eq]; omega
    (repeat (first | refine XK.n ?_ | refine XK.a ?_ | refine XK.b ?_))
    refine XK.loop (ι := Nat) (fun i => ST.of [(3, .rptr (kC k)), (4, .rptr (ptC p)), (5, .ptr 5 0), (7, .c (.int .i64 (lastAt p.clauses i))), (25, intsV p.clauses), (26, .c (.int .i64 p.clauses.length)), (27, .c (.int .i64 i))]
      [(5, .cells 90 [.c (.int .i64 e.least), .c (.int .i64 e.most), .c (.bool e.renewed), .c (.bool e.spanned), .fn (.func f) [] []])] 1000 65 (fun _ => false))
      (fun i => i ≤ p.clauses.length ∧ incB k.clauses.length (-1) p.clauses = incB k.clauses.length (lastAt p.clauses i) (p.clauses.drop i)) (fun i => p.clauses.length - i) 0 ⟨Nat.zero_le _, rfl⟩
      (Weak.trans (Weak.frozenC (k := 3) hN rfl rfl rfl) (Weak.trans (Weak.frozenC (k := 4) hN rfl rfl rfl) (Weak.of hN rfl rfl rfl frI frI))) fun i hi => ?_
    obtain ⟨hi, hc⟩ := hi
    (repeat (first | refine XK.n ?_ | refine XK.a ?_ | refine XK.b ?_)); refine XK.cond rfl (fun hlt => ?_) (fun hlt => ?_) <;> (try simp at hlt)
    · have hd := incB_drop (n := k.clauses.length) hlt
      have fx : p.clauses.getD (i : Int).toNat default = p.clauses.getD i default := rfl
      have hls : lastAt p.clauses (i + 1) = p.clauses.getD i default := rfl
      rw [hls] at hd
      (repeat (first | refine XK.n ?_ | refine XK.a ?_ | refine XK.b ?_))
      rw [fx]
      generalize p.clauses.getD i default = x at *
      (repeat (first | refine XK.n ?_ | refine XK.a ?_ | refine XK.b ?_)); refine XK.cond rfl (fun h2 => ?_) (fun h2 => ?_)
      · (repeat (first | refine XK.n ?_ | refine XK.a ?_ | refine XK.b ?_))
        (first | refine XK.out rfl rfl rfl ?_ | refine XK.outN rfl rfl rfl ?_)
        refine cB ?_
        have : (decide (lastAt p.clauses i < x) && decide (x < (k.clauses.length : Int))) = false := by
          simp only [Bool.or_eq_true, decide_eq_true_eq] at h2
          rw [Bool.and_eq_false_iff, decide_eq_false_iff_not, decide_eq_false_iff_not]; omega
        simp only [fitsB, hc, hd, this, Bool.and_false, Bool.false_and]
      · have h2' : (decide (lastAt p.clauses i < x) && decide (x < (k.clauses.length : Int))) = true := by
          simp only [Bool.or_eq_false_iff, decide_eq_false_iff_not] at h2
          rw [Bool.and_eq_true, decide_eq_true_eq, decide_eq_true_eq]; omega
        rw [h2', Bool.true_and] at hd
        (repeat (first | refine XK.n ?_ | refine XK.a ?_ | refine XK.b ?_))
        exact XK.inv ⟨i + 1, ⟨hlt, by rw [hc, hd, hls]⟩, (by rw [hls]; exact (Weak.of hN rfl rfl rfl frI frI)), by omega⟩
    · have hie : i = p.clauses.length := by omega
      subst hie
      have hc : incB k.clauses.length (-1) p.clauses = true := by rw [hc, List.drop_length]; rfl
      have zk := zeroCl_ok p.new
      (repeat (first | refine XK.n ?_ | refine XK.a ?_ | refine XK.b ?_)); refine XK.region ?_; refine XL.g ?_
      refine XL.callGA hE rfl rfl rfl rfl rfl rfl rfl rfl (zk) rfl ?_
      refine XL.g ?_; refine XL.fin ?_; (repeat (first | refine XK.n ?_ | refine XK.a ?_ | refine XK.b ?_))
      (repeat (first | refine XK.n ?_ | refine XK.a ?_ | refine XK.b ?_)); refine XK.cond rfl (fun h3 => ?_) (fun h3 => ?_)
      · (repeat (first | refine XK.n ?_ | refine XK.a ?_ | refine XK.b ?_))
        (first | refine XK.out rfl rfl rfl ?_ | refine XK.outN rfl rfl rfl ?_)
        refine cB ?_
        have : (e.renewed || zeroCl p.new) = false := by
          cases h4 : e.renewed <;> cases h5 : zeroCl p.new <;> simp_all
        simp only [fitsB, this, Bool.and_false, Bool.false_and]
      · have h3 : (e.renewed || zeroCl p.new) = true := by
          cases h4 : e.renewed <;> cases h5 : zeroCl p.new <;> simp_all
        have hf : fitsB k.clauses.length p e = if e.spanned then decide (1 ≤ p.days) && decide (p.days ≤ 400) else p.days == 0 := by
          simp only [fitsB, hb, hc, h3, Bool.true_and]
        (repeat (first | refine XK.n ?_ | refine XK.a ?_ | refine XK.b ?_)); refine XK.cond rfl (fun h4 => ?_) (fun h4 => ?_)
        · (repeat (first | refine XK.n ?_ | refine XK.a ?_ | refine XK.b ?_))
          (first | refine XK.out rfl rfl rfl ?_ | refine XK.outN rfl rfl rfl ?_)
          refine cB ?_
          rw [hf, if_pos (by simpa using h4)]
        · (repeat (first | refine XK.n ?_ | refine XK.a ?_ | refine XK.b ?_))
          (first | refine XK.out rfl rfl rfl ?_ | refine XK.outN rfl rfl rfl ?_)
          refine cB ?_
          rw [hf, if_neg (by simpa using h4)]
end Go.Proofs.YtlhmgphgnedlkaaGreat
end
section
/- Contracts: package patch: what the kinds of patches do. -/
namespace Go.Proofs.YtlhmgphgnedlkaaGreat
open Go.Eng
set_option maxRecDepth 10000
theorem catF_oneV {i : Nat} {f g h : Nat → List AV} (h0 : h 0 = g i) (hf : ∀ j, j < i → f j = g j) : ∀ j, j < i + 1 → catF i f h j = g j := by
  intro j hj
  unfold catF
  by_cases h1 : j < i
  · have : Nat.blt j i = true := by simpa using h1
    rw [this, cond_true]
    exact hf j h1
  · have : Nat.blt j i = false := by
      cases hb : Nat.blt j i with
      | false => rfl
      | true => simp at hb; exact absurd hb h1
    have e : j = i := by omega
    rw [this, cond_false, e, Nat.sub_self, h0]
def clsO (s : Nat) (cs : List Cl) : Ob := .vec 48 16 s cs.length (fun i => clC (cs.getD i default))
theorem getD_setA {α : Type} [Inhabited α] (l : List α) (i j : Nat) (x : α) (hi : i < l.length) : (l.set i x).getD j default = if j = i then x else l.getD j default := by
  simp only [List.getD_eq_getElem?_getD, List.getElem?_set]
  by_cases h : i = j
  · subst h; simp [hi]
  · rw [if_neg h, if_neg (fun h' => h h'.symm)]
theorem setRow_cls {cs : List Cl} {x : Nat} (hx : x < cs.length) {off : Nat} {c : List AV} {y : Cl} (hc : setL (clC (cs.getD x default)) off c = clC y) : ∀ j, clC ((cs.set x y).getD j default) = setRowF (fun i => clC (cs.getD i default)) x off c j := by
  intro j
  rw [getD_setA _ _ _ _ hx]
  unfold setRowF
  by_cases h : j = x
  · subst h; rw [if_pos rfl, show Nat.beq j j = true by simp]; exact hc.symm
  · rw [if_neg h, beq_false h]; rfl
def waive1 (cs : List Cl) (i : Int) : List Cl := cs.set i.toNat { cs.getD i.toNat default with waived := true }
def span1 (d : Int) (cs : List Cl) (i : Int) : List Cl := cs.set i.toNat { cs.getD i.toNat default with after := d }
theorem waive_len (cs : List Cl) (l : List Int) : (waiveL cs l).length = cs.length := by
  unfold waiveL
  induction l generalizing cs with
  | nil => rfl
  | cons i l ih => rw [List.foldl_cons, ih, List.length_set]
theorem span_len (d : Int) (cs : List Cl) (l : List Int) : (spanL d cs l).length = cs.length := by
  unfold spanL
  induction l generalizing cs with
  | nil => rfl
  | cons i l ih => rw [List.foldl_cons, ih, List.length_set]
theorem take_snoc (l : List Int) {i : Nat} (hi : i < l.length) : l.take (i + 1) = l.take i ++ [l.getD i default] := by
  rw [List.take_add_one, List.getElem?_eq_getElem hi]; simp [List.getD, hi]
theorem waive_take (cs : List Cl) (l : List Int) {i : Nat} (hi : i < l.length) : waiveL cs (l.take (i + 1)) = waive1 (waiveL cs (l.take i)) (l.getD i default) := by
  rw [take_snoc l hi]; unfold waiveL; rw [List.foldl_append]; rfl
theorem span_take (d : Int) (cs : List Cl) (l : List Int) {i : Nat} (hi : i < l.length) : spanL d cs (l.take (i + 1)) = span1 d (spanL d cs (l.take i)) (l.getD i default) := by
  rw [take_snoc l hi]; unfold spanL; rw [List.foldl_append]; rfl
def idxOk (n : Nat) (l : List Int) : Prop := ∀ i, i < l.length → 0 ≤ l.getD i default ∧ l.getD i default < n
theorem eff1_ok (cs : List Cl) (p : Pt) (hp : ptW p) (hx : idxOk cs.length p.clauses) (hl : p.clauses.length ≤ 1000000) (hn : cs.length ≤ 1000000) :
    DoesM Tryz.prog 63 [.vec 0 0, ptV p] [clsO 0 cs] (.vec 0 1) [clsO 1 (waiveL cs p.clauses)] := by
  refine DoesM.mk (fun _ => false) 100 TT_ok Tryz.func63 rfl (by kernel_rfl) Tryz.ntmps63 rfl rfl rfl fun E hT hE hN hR => ?_
  have hm := mixO hE
  (repeat (first | refine XK.n ?_ | refine XK.a ?_ | refine XK.b ?_))
  refine XK.loop (ι := Nat) (fun i => ST.of [(0, .vec 0 0), (3, .rptr (ptC p)), (8, intsV p.clauses), (9, .c (.int .i64 p.clauses.length)), (10, .c (.int .i64 i))] [(0, clsO 0 (waiveL cs (p.clauses.take i)))] 1000 20 (fun _ => false))
    (fun i => i ≤ p.clauses.length) (fun i => p.clauses.length - i) 0 (Nat.zero_le _) (Weak.trans (Weak.frozenC (k := 103) hN rfl rfl rfl) (Weak.of hN rfl rfl rfl frI frI)) fun i hi => ?_
  have hlen := waive_len cs (p.clauses.take i)
  (repeat (first | refine XK.n ?_ | refine XK.a ?_ | refine XK.b ?_)); refine XK.cond rfl (fun hlt => ?_) (fun hlt => ?_) <;> (try simp at hlt)
  · have hxi := hx i hlt
    have ht := waive_take cs p.clauses hlt
    have fx : p.clauses.getD (i : Int).toNat default = p.clauses.getD i default := rfl
    generalize waiveL cs (p.clauses.take i) = c1 at *
    unfold clsO
    (repeat (first | refine XK.n ?_ | refine XK.a ?_ | refine XK.b ?_))
    rw [fx]
    have hxc : (p.clauses.getD i default).toNat < c1.length := by omega
    refine XK.inv ⟨i + 1, hlt, Weak.of hN rfl rfl rfl (by (repeat' (first | exact rfl | exact AvIs.refl _ | exact trivial | exact fun _ _ => rfl | exact fun _ _ => ⟨rfl, AvIs.refl _⟩ | exact cI (by omega) | refine ⟨?_, ?_⟩))) ⟨⟨rfl, rfl, rfl⟩, ?_, fun j hj => ?_⟩, by omega⟩
    · rw [ht, waive1, List.length_set]
    · rw [ht, waive1]
      exact setRow_cls hxc rfl j
  · have hie : i = p.clauses.length := by omega
    subst hie
    rw [List.take_length]
    (repeat (first | refine XK.n ?_ | refine XK.a ?_ | refine XK.b ?_))
    refine XK.weak (Weak.stamp (k := 0) (t := 1) hN rfl rfl) ?_
    (first | refine XK.outR [0] hN rfl rfl rfl ?_ rfl rfl ?_ | refine XK.outRN [0] hN rfl rfl rfl ?_ rfl rfl ?_)
    · (repeat' (first | exact rfl | exact AvIs.refl _ | exact trivial | exact fun _ _ => rfl | exact fun _ _ => ⟨rfl, AvIs.refl _⟩ | refine ⟨?_, ?_⟩))
    · (repeat' (first | exact rfl | exact AvIs.refl _ | exact trivial | exact fun _ _ => rfl | exact fun _ _ => ⟨rfl, AvIs.refl _⟩ | refine ⟨?_, ?_⟩))
theorem eff4_ok (cs : List Cl) (p : Pt) (hp : ptW p) (hx : idxOk cs.length p.clauses) (hl : p.clauses.length ≤ 1000000) (hn : cs.length ≤ 1000000) :
    DoesM Tryz.prog 66 [.vec 0 0, ptV p] [clsO 0 cs] (.vec 0 1) [clsO 1 (spanL p.days cs p.clauses)] := by
  refine DoesM.mk (fun _ => false) 100 TT_ok Tryz.func66 rfl (by kernel_rfl) Tryz.ntmps66 rfl rfl rfl fun E hT hE hN hR => ?_
  have hm := mixO hE
  (repeat (first | refine XK.n ?_ | refine XK.a ?_ | refine XK.b ?_))
  refine XK.loop (ι := Nat) (fun i => ST.of [(0, .vec 0 0), (3, .rptr (ptC p)), (8, intsV p.clauses), (9, .c (.int .i64 p.clauses.length)), (10, .c (.int .i64 i))] [(0, clsO 0 (spanL p.days cs (p.clauses.take i)))] 1000 22 (fun _ => false))
    (fun i => i ≤ p.clauses.length) (fun i => p.clauses.length - i) 0 (Nat.zero_le _) (Weak.trans (Weak.frozenC (k := 103) hN rfl rfl rfl) (Weak.of hN rfl rfl rfl frI frI)) fun i hi => ?_
  have hlen := span_len p.days cs (p.clauses.take i)
  (repeat (first | refine XK.n ?_ | refine XK.a ?_ | refine XK.b ?_)); refine XK.cond rfl (fun hlt => ?_) (fun hlt => ?_) <;> (try simp at hlt)
  · have hxi := hx i hlt
    have ht := span_take p.days cs p.clauses hlt
    have fx : p.clauses.getD (i : Int).toNat default = p.clauses.getD i default := rfl
    generalize spanL p.days cs (p.clauses.take i) = c1 at *
    unfold clsO
    (repeat (first | refine XK.n ?_ | refine XK.a ?_ | refine XK.b ?_))
    rw [fx]
    have hxc : (p.clauses.getD i default).toNat < c1.length := by omega
    refine XK.inv ⟨i + 1, hlt, Weak.of hN rfl rfl rfl (by (repeat' (first | exact rfl | exact AvIs.refl _ | exact trivial | exact fun _ _ => rfl | exact fun _ _ => ⟨rfl, AvIs.refl _⟩ | exact cI (by omega) | refine ⟨?_, ?_⟩))) ⟨⟨rfl, rfl, rfl⟩, ?_, fun j hj => ?_⟩, by omega⟩
    · rw [ht, span1, List.length_set]
    · rw [ht, span1]
      exact setRow_cls hxc rfl j
  · have hie : i = p.clauses.length := by omega
    subst hie
    rw [List.take_length]
    (repeat (first | refine XK.n ?_ | refine XK.a ?_ | refine XK.b ?_))
    refine XK.weak (Weak.stamp (k := 0) (t := 1) hN rfl rfl) ?_
    (first | refine XK.outR [0] hN rfl rfl rfl ?_ rfl rfl ?_ | refine XK.outRN [0] hN rfl rfl rfl ?_ rfl rfl ?_)
    · (repeat' (first | exact rfl | exact AvIs.refl _ | exact trivial | exact fun _ _ => rfl | exact fun _ _ => ⟨rfl, AvIs.refl _⟩ | refine ⟨?_, ?_⟩))
    · (repeat' (first | exact rfl | exact AvIs.refl _ | exact trivial | exact fun _ _ => rfl | exact fun _ _ => ⟨rfl, AvIs.refl _⟩ | refine ⟨?_, ?_⟩))
theorem eff2_ok (cs : List Cl) (p : Pt) (hs : p.new.start.length ≤ 1000000) (hn : cs.length ≤ 1000000) :
    DoesM Tryz.prog 64 [.vec 0 0, ptV p] [clsO 0 cs] (.vec 0 1) [clsO 1 (cs ++ [p.new])] := by
  refine DoesM.mk (fun _ => false) 100 TT_ok Tryz.func64 rfl (by kernel_rfl) Tryz.ntmps64 rfl rfl rfl fun E hT hE hN hR => ?_
  have hm := mixO hE
  unfold clsO
  (repeat (first | refine XK.n ?_ | refine XK.a ?_ | refine XK.b ?_)); refine XK.region ?_; refine XL.g ?_
  refine XL.callKA hE rfl rfl rfl rfl trivial rfl rfl (clCopied_ok p.new hs) ?_
  refine XL.g ?_; refine XL.fin ?_; (repeat (first | refine XK.n ?_ | refine XK.a ?_ | refine XK.b ?_))
  refine XK.weak (Weak.of (L := [(4, .vec 0 1)]) (O := [(0, .vec 48 16 1 (cs ++ [p.new]).length (fun i => clC ((cs ++ [p.new]).getD i default)))]) (nx := 1000) (nt := 11) (md := fun _ => false) hN rfl rfl rfl frI
    ⟨⟨rfl, rfl, rfl⟩, by simp, fun j hj => (catF_oneV (g := fun i => clC ((cs ++ [p.new]).getD i default)) ?_ (fun k hk => ?_) j hj).symm⟩) ?_
  · show clC p.new = clC ((cs ++ [p.new]).getD cs.length default)
    simp [List.getD]
  · show clC (cs.getD k default) = clC ((cs ++ [p.new]).getD k default)
    simp [List.getD, List.getElem?_append_left hk]
  (first | refine XK.outR [0] hN rfl rfl rfl ?_ rfl rfl ?_ | refine XK.outRN [0] hN rfl rfl rfl ?_ rfl rfl ?_)
  · (repeat' (first | exact rfl | exact AvIs.refl _ | exact trivial | exact fun _ _ => rfl | exact fun _ _ => ⟨rfl, AvIs.refl _⟩ | refine ⟨?_, ?_⟩))
  · (repeat' (first | exact rfl | exact AvIs.refl _ | exact trivial | exact fun _ _ => rfl | exact fun _ _ => ⟨rfl, AvIs.refl _⟩ | refine ⟨?_, ?_⟩))
theorem eff3_ok (cs : List Cl) (p : Pt) (hs : p.new.start.length ≤ 1000000) (h0 : 0 < p.clauses.length) (hx : idxOk cs.length p.clauses) (hn : cs.length ≤ 1000000) :
    DoesM Tryz.prog 65 [.vec 0 0, ptV p] [clsO 0 cs] (.vec 0 1) [clsO 1 (cs.set (p.clauses.getD 0 default).toNat p.new)] := by
  have hx0 := hx 0 h0
  refine DoesM.mk (fun _ => false) 100 TT_ok Tryz.func65 rfl (by kernel_rfl) Tryz.ntmps65 rfl rfl rfl fun E hT hE hN hR => ?_
  have hm := mixO hE
  unfold clsO
  (repeat (first | refine XK.n ?_ | refine XK.a ?_ | refine XK.b ?_)); refine XK.drawn hm ?_; refine XD.goA hT rfl rfl rfl rfl ?_
  refine XD.callKA hE rfl rfl rfl rfl trivial rfl rfl (clCopied_ok p.new hs) ?_
  refine XD.goA hT rfl rfl rfl rfl ?_; refine XD.fin (by kernel_rfl) ?_; (repeat (first | refine XK.n ?_ | refine XK.a ?_ | refine XK.b ?_))
  have f0 : p.clauses.getD (Int.toNat 0) default = p.clauses.getD 0 default := rfl
  rw [f0]
  have hxc : (p.clauses.getD 0 default).toNat < cs.length := by omega
  refine XK.weak (Weak.of (L := [(4, .vec 0 0)]) (O := [(0, .vec 48 16 0 (cs.set (p.clauses.getD 0 default).toNat p.new).length (fun i => clC ((cs.set (p.clauses.getD 0 default).toNat p.new).getD i default)))]) (nx := 1000) (nt := 15) (md := fun _ => false) hN rfl rfl rfl frI
    ⟨⟨rfl, rfl, rfl⟩, by rw [List.length_set], fun j hj => setRow_cls hxc rfl j⟩) ?_
  refine XK.weak (Weak.stamp (k := 0) (t := 1) hN rfl rfl) ?_
  (first | refine XK.outR [0] hN rfl rfl rfl ?_ rfl rfl ?_ | refine XK.outRN [0] hN rfl rfl rfl ?_ rfl rfl ?_)
  · (repeat' (first | exact rfl | exact AvIs.refl _ | exact trivial | exact fun _ _ => rfl | exact fun _ _ => ⟨rfl, AvIs.refl _⟩ | refine ⟨?_, ?_⟩))
  · (repeat' (first | exact rfl | exact AvIs.refl _ | exact trivial | exact fun _ _ => rfl | exact fun _ _ => ⟨rfl, AvIs.refl _⟩ | refine ⟨?_, ?_⟩))
end Go.Proofs.YtlhmgphgnedlkaaGreat
end
section
/- Contracts: package patch: effects. -/
namespace Go.Proofs.YtlhmgphgnedlkaaGreat
open Go.Eng
set_option maxRecDepth 10000
def effFn (n : Int) : Nat := if n = 1 then 64 else if n = 2 then 65 else if n = 5 then 66 else 63
def effAt (n : Int) : AV := match efOf n with
  | some e => efV e (effFn n)
  | none => .agg [.c (.int .i64 0), .c (.int .i64 0), .c (.bool false), .c (.bool false), .c .nilFunc]
def effDom (v : Value) : Bool := match v with
  | .int .i64 n => (efOf n).isSome
  | _ => false
def effVal (v : Value) : AV := match v with
  | .int .i64 n => effAt n
  | _ => .junk
def effO : Ob := .mapb (.int .i64) ty90.zv effDom effVal
theorem ke (n m : Int) (h : n ≠ m) : keyEq (.int .i64 n) (.int .i64 m) = false := by simp [keyEq, h]
theorem effects_ok : DoesM Tryz.prog 34 [] [] (.mp 0) [effO] := by
  refine DoesM.mk (fun _ => false) 100 TT_ok Tryz.func34 rfl (by kernel_rfl) Tryz.ntmps34 rfl rfl rfl fun E hT hE hN hR => ?_
  have hm := mixO hE
  (repeat (first | refine XK.n ?_ | refine XK.a ?_ | refine XK.b ?_))
  refine XK.weak (Weak.of (L := [(0, .mp 124)]) (O := [(124, effO)]) (nx := 1000) (nt := 11) (md := fun _ => false) hN rfl rfl rfl rfl ⟨rfl, rfl, fun z hz => ?_⟩) ?_
  · have : ∃ n, z = .int .i64 n := by
      cases z <;> simp [KK.has] at hz
      subst hz; exact ⟨_, rfl⟩
    obtain ⟨n, rfl⟩ := this
    by_cases h1 : n = 1
    · subst h1; exact ⟨rfl, rfl⟩
    by_cases h2 : n = 2
    · subst h2; exact ⟨rfl, rfl⟩
    by_cases h3 : n = 3
    · subst h3; exact ⟨rfl, rfl⟩
    by_cases h4 : n = 4
    · subst h4; exact ⟨rfl, rfl⟩
    by_cases h5 : n = 5
    · subst h5; exact ⟨rfl, rfl⟩
    have e : efOf n = none := by simp [efOf, h1, h2, h3, h4, h5]
    dsimp only [effDom, effVal, effAt]
    rw [e, ke n 1 h1, ke n 2 h2, ke n 3 h3, ke n 4 h4, ke n 5 h5]
    exact ⟨rfl, rfl⟩
  · (first | refine XK.outR [124] hN rfl rfl rfl ?_ rfl rfl ?_ | refine XK.outRN [124] hN rfl rfl rfl ?_ rfl rfl ?_)
    · (repeat' (first | exact rfl | exact AvIs.refl _ | exact trivial | exact fun _ _ => rfl | exact fun _ _ => ⟨rfl, AvIs.refl _⟩ | refine ⟨?_, ?_⟩))
    · (repeat' (first | exact rfl | exact AvIs.refl _ | exact trivial | exact fun _ _ => rfl | exact fun _ _ => ⟨rfl, AvIs.refl _⟩ | refine ⟨?_, ?_⟩))
theorem eff_ok (cs : List Cl) (p : Pt) (hp : ptW p) {e : Ef} (he : efOf p.kind = some e) (hx : idxOk cs.length p.clauses) (h2 : p.kind = 2 → 0 < p.clauses.length) (hl : p.clauses.length ≤ 1000000) (hs : p.new.start.length ≤ 1000000) (hn : cs.length ≤ 1000000) :
    DoesM Tryz.prog (effFn p.kind) [.vec 0 0, ptV p] [clsO 0 cs] (.vec 0 1) [clsO 1 (doP cs p)] := by
  unfold effFn doP
  by_cases k1 : p.kind = 1
  · rw [if_pos k1, if_pos k1]; exact eff2_ok cs p hs hn
  rw [if_neg k1, if_neg k1]
  by_cases k2 : p.kind = 2
  · rw [if_pos k2, if_pos k2]; exact eff3_ok cs p hs (h2 k2) hx hn
  rw [if_neg k2, if_neg k2]
  by_cases k5 : p.kind = 5
  · rw [if_pos k5, if_pos k5]; exact eff4_ok cs p hp hx hl hn
  rw [if_neg k5, if_neg k5]
  exact eff1_ok cs p hp hx hl hn
theorem doP_len {cs : List Cl} {p : Pt} : (doP cs p).length ≤ cs.length + 1 := by
  unfold doP
  split
  · simp
  · split
    · simp
    · split
      · rw [span_len]; omega
      · rw [waive_len]; omega
theorem mem_set_or {α : Type} {l : List α} {i : Nat} {x y : α} (h : y ∈ l.set i x) : y ∈ l ∨ y = x := List.mem_or_eq_of_mem_set h
theorem getD_W {cs : List Cl} (h : ∀ x ∈ cs, clW x) (i : Nat) : clW (cs.getD i default) := by
  by_cases hi : i < cs.length
  · simp only [List.getD_eq_getElem?_getD, List.getElem?_eq_getElem hi, Option.getD_some]
    exact h _ (List.getElem_mem hi)
  · rw [List.getD_eq_getElem?_getD, List.getElem?_eq_none (by omega), Option.getD_none]
    refine ⟨?_, ?_, ?_, ?_, fun x hx => (by cases hx), ?_, ?_, ?_, ?_, ⟨?_, ?_⟩, ?_, ?_⟩ <;> (show _ ≤ _ ∧ _ ≤ _; decide)
theorem waive_W {l : List Int} : ∀ {cs : List Cl}, (∀ x ∈ cs, clW x) → ∀ x ∈ waiveL cs l, clW x := by
  unfold waiveL
  induction l with
  | nil => exact fun h => h
  | cons i l ih =>
    intro cs h
    rw [List.foldl_cons]
    refine ih fun x hx => ?_
    rcases mem_set_or hx with hx | rfl
    · exact h x hx
    · exact getD_W h _
theorem span_W {d : Int} (hd : inK .i64 d) {l : List Int} : ∀ {cs : List Cl}, (∀ x ∈ cs, clW x) → ∀ x ∈ spanL d cs l, clW x := by
  unfold spanL
  induction l with
  | nil => exact fun h => h
  | cons i l ih =>
    intro cs h
    rw [List.foldl_cons]
    refine ih fun x hx => ?_
    rcases mem_set_or hx with hx | rfl
    · exact h x hx
    · obtain ⟨a, b, c, d', e, f, g⟩ := getD_W h i.toNat
      exact ⟨a, b, c, d', e, hd, g⟩
theorem doP_W {cs : List Cl} {p : Pt} (hp : ptW p) (h : ∀ x ∈ cs, clW x) : ∀ x ∈ doP cs p, clW x := by
  unfold doP
  split
  · intro x hx
    rcases List.mem_append.1 hx with hx | hx
    · exact h x hx
    · rw [List.mem_singleton] at hx; subst hx; exact hp.2.2.1
  · split
    · intro x hx
      rcases mem_set_or hx with hx | rfl
      · exact h x hx
      · exact hp.2.2.1
    · split
      · exact span_W hp.2.2.2 h
      · exact waive_W h
end Go.Proofs.YtlhmgphgnedlkaaGreat
end
section
/- What a valid contract gives. -/
namespace Go.Proofs.YtlhmgphgnedlkaaGreat
open Go.Eng
set_option maxRecDepth 10000
theorem lt_succ_ne {i j : Nat} (h : j ≠ i) : (j < i + 1) = (j < i) := by
  rw [eq_iff_iff]; omega
def kOk (k : K) : Prop := kW k ∧ (kValid k).1 = 0
def clAt (k : K) (i : Nat) : Cl := k.clauses.getD i default
def acAt (k : K) (i : Nat) : Act := k.acts.getD i default
structure KFacts (k : K) : Prop where
  w : kW k
  parties : 1 ≤ k.parties ∧ k.parties ≤ 12
  days : 1 ≤ k.days ∧ k.days ≤ 2000
  nh : 0 < k.holders.length ∧ k.holders.length ≤ 12
  na : k.acts.length ≤ 60
  nc : k.clauses.length ≤ 400
  held : heldB k = true
  off : offB k = true
  act : ∀ i, i < k.acts.length → actB k (acAt k i) = true
  cl : ∀ i, i < k.clauses.length → clauseB k i (clAt k i) = true
theorem kOk.facts {k : K} (h : kOk k) : KFacts k := by
  obtain ⟨hw, hv⟩ := h
  unfold kValid at hv
  split at hv
  · simp at hv
  · rename_i h1
    simp only [Bool.or_eq_true, decide_eq_true_eq, not_or] at h1
    split at hv
    · simp at hv
    · rename_i h2
      split at hv
      · simp at hv
      · rename_i h3
        have h2 : framedB k = true := by simpa using h2
        unfold framedB at h2
        split at h2
        · cases h2
        · rename_i h4
          simp only [not_or] at h4
          split at h2
          · cases h2
          · simp only [Bool.and_eq_true] at h2
            refine ⟨hw, by omega, by omega, by omega, by omega, by omega, by simpa using h4.2.2.2, h2.2, fun i hi => all_at.1 h2.1 i hi, fun i hi => ?_⟩
            have := List.find?_eq_none.1 h3 i (by simpa using hi)
            simpa [clAt] using this
namespace KFacts
variable {k : K} (h : KFacts k)
include h
theorem clW' {i : Nat} (hi : i < k.clauses.length) : clW (clAt k i) := all_getD h.w.2.2.2.2.1 i hi
theorem acW {i : Nat} (hi : i < k.acts.length) : actW (acAt k i) := all_getD h.w.2.2.2.1 i hi
theorem clB {i : Nat} (hi : i < k.clauses.length) : (0 ≤ (clAt k i).act ∧ (clAt k i).act < k.acts.length) ∧ (1 ≤ (clAt k i).after ∧ (clAt k i).after ≤ 400) ∧ kindB k (clAt k i) = true ∧ (clAt k i).start.length ≤ 8 ∧ (∀ s ∈ (clAt k i).start, condB k i s = true) ∧
    (((clAt k i).pause = -1 ∧ (clAt k i).resume = -1) ∨ ((clAt k i).pause ≠ (clAt k i).resume ∧ natB k (clAt k i).pause = true ∧ natB k (clAt k i).resume = true)) ∧
    ((clAt k i).unit = -1 ∧ (clAt k i).value = (0, 1) ∧ (clAt k i).to = -1 ∨ (clAt k i).unit ≠ -1 ∧ ((clAt k i).kind = 1 ∨ (clAt k i).kind = 2) ∧ (0 ≤ (clAt k i).unit ∧ (clAt k i).unit < k.units.length) ∧ (k.units.getD (clAt k i).unit.toNat default).kind = 2 ∧ posB (clAt k i).value = true ∧ movB k (clAt k i).to = true) := by
  have := h.cl i hi
  generalize clAt k i = x at *
  unfold clauseB at this
  split at this
  · cases this
  · rename_i h1
    simp only [Bool.or_eq_true, decide_eq_true_eq, not_or] at h1
    split at this
    · cases this
    · rename_i h2
      simp only [Bool.or_eq_true, Bool.not_eq_true', decide_eq_true_eq, not_or, Bool.not_eq_false] at h2
      split at this
      · cases this
      · rename_i h3
        have h3 : ∀ s ∈ x.start, condB k i s = true := List.all_eq_true.1 (by simpa using h3)
        split at this
        · cases this
        · rename_i h4
          refine ⟨by omega, by omega, h2.1, by omega, h3, ?_, ?_⟩
          · by_cases h5 : x.pause ≠ -1 ∨ x.resume ≠ -1
            · right
              simp only [h5, true_and, Bool.or_eq_true, beq_iff_eq, Bool.not_eq_true', not_or, Bool.not_eq_false] at h4
              exact ⟨h4.1.1, h4.1.2, h4.2⟩
            · left; omega
          · split at this
            · rename_i h6
              simp only [Bool.and_eq_true, beq_iff_eq] at this
              exact .inl ⟨h6, Prod.ext this.1.1 this.1.2, this.2⟩
            · rename_i h6
              simp only [Bool.and_eq_true, Bool.or_eq_true, beq_iff_eq, decide_eq_true_eq] at this
              exact .inr ⟨h6, this.1.1.1.1.1, ⟨this.1.1.1.1.2, this.1.1.1.2⟩, this.1.1.2, this.1.2, this.2⟩
theorem cond {i : Nat} (hi : i < k.clauses.length) {s : Cnd} (hs : s ∈ (clAt k i).start) : 0 ≤ s.clause ∧ s.clause < k.clauses.length ∧ s.clause ≠ i ∧ 1 ≤ s.is ∧ s.is ≤ 4 := by
  have := (h.clB hi).2.2.2.2.1 s hs
  simp only [condB, Bool.not_eq_true', Bool.or_eq_false_iff, decide_eq_false_iff_not, beq_eq_false_iff_ne, ne_eq] at this
  omega
end KFacts
end Go.Proofs.YtlhmgphgnedlkaaGreat
end
section
/- Contracts: package patch: Apply. -/
namespace Go.Proofs.YtlhmgphgnedlkaaGreat
open Go.Eng
set_option maxRecDepth 10000
def zKV : AV := .agg [.c (.int .i64 0), .c (.slice none 0 0), .c (.slice none 0 0), .c (.slice none 0 0), .c (.slice none 0 0), .c (.int .i64 0), .c (.slice none 0 0)]
theorem zKV_is : AvS zKV (kV zeroK) := AvS.agg ⟨AvS.refl _, AvS.nil, AvS.nil, AvS.nil, AvS.nil, AvS.refl _, AvS.nil, trivial⟩
theorem AvS.tupS {l l' : List AV} (h : AvSL l l') : AvS (.tup l) (.tup l') := by
  intro w G ρ v hr
  obtain ⟨cs, rfl, h1, h2⟩ := hr.tup_inv
  obtain ⟨h3, h4⟩ := AvSL.at_ h
  exact .tup (h1.trans h3) fun i y hi => by
    obtain ⟨x, hx, hxy⟩ := h4 i y hi
    exact hxy _ _ _ _ (h2 i x hx)
def kE (x : K × Int) : AV := if x.2 = 0 then kV x.1 else zKV
theorem kE_is {x : K × Int} (h : x.2 ≠ 0 → x.1 = zeroK) : AvS (kE x) (kV x.1) := by
  unfold kE
  split
  · exact AvS.refl _
  · rename_i h0; rw [h h0]; exact zKV_is
theorem incB_idx {n : Int} : ∀ {l : List Int} {last : Int}, -1 ≤ last → incB n last l = true → ∀ i, i < l.length → 0 ≤ l.getD i default ∧ l.getD i default < n
  | [], _, _, _, i, hi => absurd hi (Nat.not_lt_zero _)
  | x :: l, last, h0, h, i, hi => by
    simp only [incB, Bool.and_eq_true, decide_eq_true_eq] at h
    cases i with
    | zero => exact ⟨by show 0 ≤ x; omega, h.1.2⟩
    | succ i => exact incB_idx (by omega) h.2 i (by simpa using hi)
theorem fits_facts {n : Int} {p : Pt} {e : Ef} (h : fitsB n p e = true) : (e.least ≤ (p.clauses.length : Int) ∧ (p.clauses.length : Int) ≤ e.most) ∧ incB n (-1) p.clauses = true := by
  simp only [fitsB, Bool.and_eq_true, decide_eq_true_eq] at h
  exact ⟨⟨h.1.1.1.1, h.1.1.1.2⟩, h.1.1.2⟩
def zeroCells : List AV := [.c (.int .i64 0), .c (.int .i64 0), .c (.int .i64 0), .c (.int .i64 0), .c (.slice none 0 0), .c (.int .i64 0), .c (.int .i64 0), .c (.bool false), .c (.bool false), .c (.int .i64 0), .c (.int .i64 0), .c (.int .i64 0), .c (.int .i64 0), .c (.int .i64 0), .c (.int .i64 0), .c (.bool false)]
def rowTo (k : K) (i : Nat) : Nat → List AV := fun j => bif Nat.blt j i then clC (k.clauses.getD j default) else zeroCells
theorem units_len {k : K} (h : (kValid k).1 = 0) : k.units.length ≤ 20 := by
  unfold kValid at h
  split at h
  · simp at h
  · rename_i h1
    simp only [Bool.or_eq_true, decide_eq_true_eq, not_or] at h1
    omega
theorem off_len {k : K} (h : KFacts k) : k.off.length ≤ 2000 := by
  have ho := h.off
  unfold offB at ho
  rw [List.all_eq_true] at ho
  have key : ∀ i, i < k.off.length → (i : Int) ≤ k.off.getD i default ∧ k.off.getD i default < k.days := by
    intro i
    induction i with
    | zero => 
      intro hi
      have := ho 0 (List.mem_range.2 hi)
      simp only [Bool.and_eq_true, decide_eq_true_eq, offPrev, if_pos] at this
      omega
    | succ i ih =>
      intro hi
      have := ho (i + 1) (List.mem_range.2 hi)
      simp only [Bool.and_eq_true, decide_eq_true_eq, offPrev, Nat.add_one_ne_zero, if_false, Nat.add_sub_cancel] at this
      have := ih (by omega)
      omega
  have hd := h.days
  by_cases h0 : k.off.length = 0
  · omega
  · have := key (k.off.length - 1) (by omega)
    omega
theorem rowTo_succ {k : K} {i : Nat} (hi : i < k.clauses.length) (j : Nat) : rowTo k (i + 1) j = setRowF (rowTo k i) i 0 (clC (clAt k i)) j := by
  unfold setRowF rowTo
  by_cases h : j = i
  · subst h
    rw [show Nat.beq j j = true by simp, show Nat.blt j (j + 1) = true by simp]
    have hb : Nat.blt j j = false := by
      cases hb : Nat.blt j j with
      | false => rfl
      | true => exact absurd (Nat.le_of_ble_eq_true hb) (Nat.lt_irrefl _)
    rw [hb]
    rfl
  · rw [beq_false h]
    have : Nat.blt j (i + 1) = Nat.blt j i := by
      rw [Bool.eq_iff_iff, Nat.blt_eq, Nat.blt_eq]; omega
    rw [this]
    rfl
theorem apply_ok0 (k : K) (hk : kW k) (p : Pt) (hp : ptW p) (hc : p.clauses.length ≤ 1000000) (hs : p.new.start.length ≤ 1000000) : Does Tryz.prog 9 [kV k, ptV p] (.tup [kE (applyR k p), .c (.int .i64 (applyR k p).2)]) := by
  refine Does.mk (fun d => Nat.beq d 57) TT_ok Tryz.func9 rfl (by kernel_rfl) Tryz.ntmps9 rfl rfl fun E hT hE hN hR => ?_
  have hm := mixO hE
  (repeat (first | refine XK.n ?_ | refine XK.a ?_ | refine XK.b ?_)); refine XK.region ?_; refine XL.g ?_
  refine XL.callLA hE rfl rfl rfl rfl trivial rfl (kValid_ok k hk) rfl ?_
  refine XL.g ?_; refine XL.fin ?_; (repeat (first | refine XK.n ?_ | refine XK.a ?_ | refine XK.b ?_))
  (repeat (first | refine XK.n ?_ | refine XK.a ?_ | refine XK.b ?_)); refine XK.cond rfl (fun h1 => ?_) (fun h1 => ?_)
  · have h1 : (kValid k).1 ≠ 0 := by simpa using h1
    rw [applyR, if_pos h1]
    (repeat (first | refine XK.n ?_ | refine XK.a ?_ | refine XK.b ?_))
    (first | refine XK.out rfl rfl rfl ?_ | refine XK.outN rfl rfl rfl ?_)
    rfl
  have h1 : (kValid k).1 = 0 := by simpa using h1
  have hF := (show kOk k from ⟨hk, h1⟩).facts
  have hnc := hF.nc
  rw [applyR, if_neg (by simpa using h1)]
  (repeat (first | refine XK.n ?_ | refine XK.a ?_ | refine XK.b ?_)); refine XK.drawn hm ?_; refine XD.goA hT rfl rfl rfl rfl ?_
  refine XD.callMA [800] hE rfl rfl rfl rfl trivial (effects_ok) rfl rfl rfl rfl rfl ?_
  refine XD.goN 2 hT rfl rfl rfl rfl rfl rfl ?_ ?_
  · trivial
  cases he : efOf p.kind with
  | none =>
    have hz : effVal (.int .i64 p.kind) = .agg [.c (.int .i64 0), .c (.int .i64 0), .c (.bool false), .c (.bool false), .c .nilFunc] := by
      simp only [effVal, effAt, he]
    have hd : effDom (.int .i64 p.kind) = false := by simp [effDom, he]
    refine XD.opE hT (y := .tup [.agg [.c (.int .i64 0), .c (.int .i64 0), .c (.bool false), .c (.bool false), .c .nilFunc], .c (.bool false)]) rfl rfl rfl rfl trivial rfl (by rw [cond_true, hz, hd]) ?_
    refine XD.goA hT rfl rfl rfl rfl ?_; refine XD.fin (by kernel_rfl) ?_; (repeat (first | refine XK.n ?_ | refine XK.a ?_ | refine XK.b ?_))
    (repeat (first | refine XK.n ?_ | refine XK.a ?_ | refine XK.b ?_)); refine XK.region ?_; refine XL.g ?_
    refine XL.callLG (args' := []) (res := .c (.bool true)) hE rfl rfl rfl rfl rfl rfl rfl (by first | (simp [AllP, impG]; done) | (simp only [AllP, impG]; grind)) rfl (fun hgd => nomatch hgd) rfl ?_
    refine XL.g ?_; refine XL.fin ?_; (repeat (first | refine XK.n ?_ | refine XK.a ?_ | refine XK.b ?_))
    (repeat (first | refine XK.n ?_ | refine XK.a ?_ | refine XK.b ?_)); refine XK.cond rfl (fun h2 => ?_) (fun h2 => ?_)
    · (repeat (first | refine XK.n ?_ | refine XK.a ?_ | refine XK.b ?_))
      (first | refine XK.out rfl rfl rfl ?_ | refine XK.outN rfl rfl rfl ?_)
      rfl
    · cases h2
  | some e => 
    have hz : effVal (.int .i64 p.kind) = efV e (effFn p.kind) := by
      simp only [effVal, effAt, he]
    have hd : effDom (.int .i64 p.kind) = true := by simp [effDom, he]
    refine XD.opE hT (y := .tup [.agg [.c (.int .i64 e.least), .c (.int .i64 e.most), .c (.bool e.renewed), .c (.bool e.spanned), .fn (.func (effFn p.kind)) [] []], .c (.bool true)]) rfl rfl rfl rfl trivial rfl (by rw [cond_true, hz, hd]; rfl) ?_
    refine XD.goA hT rfl rfl rfl rfl ?_; refine XD.fin (by kernel_rfl) ?_; (repeat (first | refine XK.n ?_ | refine XK.a ?_ | refine XK.b ?_))
    (repeat (first | refine XK.n ?_ | refine XK.a ?_ | refine XK.b ?_)); refine XK.region ?_; refine XL.g ?_
    refine XL.callGA hE rfl rfl rfl rfl rfl rfl rfl rfl (fits_ok k p hp hc e (effFn p.kind)) rfl ?_
    refine XL.g ?_; refine XL.fin ?_; (repeat (first | refine XK.n ?_ | refine XK.a ?_ | refine XK.b ?_))
    (repeat (first | refine XK.n ?_ | refine XK.a ?_ | refine XK.b ?_)); refine XK.cond rfl (fun h2 => ?_) (fun h2 => ?_)
    · have h2 : fitsB k.clauses.length p e = false := by simpa using h2
      dsimp only
      rw [if_pos h2]
      (repeat (first | refine XK.n ?_ | refine XK.a ?_ | refine XK.b ?_))
      (first | refine XK.out rfl rfl rfl ?_ | refine XK.outN rfl rfl rfl ?_)
      rfl
    have h2 : fitsB k.clauses.length p e = true := by simpa using h2
    dsimp only
    rw [if_neg (by rw [h2]; simp)]
    (repeat (first | refine XK.n ?_ | refine XK.a ?_ | refine XK.b ?_)); refine XK.cond rfl (fun h3 => ?_) (fun h3 => ?_)
    · have h3 : p.kind = 1 ∧ k.clauses.length = 400 := by simp at h3; omega
      rw [if_pos h3]
      (repeat (first | refine XK.n ?_ | refine XK.a ?_ | refine XK.b ?_))
      (first | refine XK.out rfl rfl rfl ?_ | refine XK.outN rfl rfl rfl ?_)
      rfl
    have h3 : ¬ (p.kind = 1 ∧ k.clauses.length = 400) := by
      rintro ⟨h4, h5⟩
      rw [h4, h5] at h3
      simp at h3
    rw [if_neg h3]
    (repeat (first | refine XK.n ?_ | refine XK.a ?_ | refine XK.b ?_))
    refine XK.loop (ι := Nat) (fun i => ST.of [(2, .ptr 2 0), (3, .rptr (ptC p)), (4, .ptr 4 0), (5, .c (.int .i64 0)), (8, .ptr 317 0), (10, .vec 675 0), (59, clsV k.clauses), (60, .c (.int .i64 k.clauses.length)), (61, .c (.int .i64 i))]
      [(2, .cells 27 (kC k)), (4, .cells 27 [.c (.int .i64 0), .c (.slice none 0 0), .c (.slice none 0 0), .c (.slice none 0 0), .c (.slice none 0 0), .c (.int .i64 0), .c (.slice none 0 0)]),
       (317, .cells 90 [.c (.int .i64 e.least), .c (.int .i64 e.most), .c (.bool e.renewed), .c (.bool e.spanned), .fn (.func (effFn p.kind)) [] []]), (675, .vec 48 16 0 k.clauses.length (rowTo k i))] 1000 103 (fun _ => false))
      (fun i => i ≤ k.clauses.length) (fun i => k.clauses.length - i) 0 (Nat.zero_le _)
      (Weak.trans (Weak.frozenC (k := 3) hN rfl rfl rfl) (Weak.of hN rfl rfl rfl frI frI)) fun i hi => ?_
    (repeat (first | refine XK.n ?_ | refine XK.a ?_ | refine XK.b ?_)); refine XK.cond rfl (fun hlt => ?_) (fun hlt => ?_) <;> (try simp at hlt)
    · have fx : k.clauses.getD (i : Int).toNat default = clAt k i := rfl
      have hcl := clCopied_ok (clAt k i) (by have := (hF.clB hlt).2.2.2.1; omega)
      (repeat (first | refine XK.n ?_ | refine XK.a ?_ | refine XK.b ?_))
      rw [fx]
      (repeat (first | refine XK.n ?_ | refine XK.a ?_ | refine XK.b ?_)); refine XK.region ?_; refine XL.g ?_
      refine XL.callKA hE rfl rfl rfl rfl trivial rfl rfl (hcl) ?_
      refine XL.g ?_; refine XL.fin ?_; (repeat (first | refine XK.n ?_ | refine XK.a ?_ | refine XK.b ?_))
      refine XK.inv ⟨i + 1, hlt, Weak.of hN rfl rfl rfl (by (repeat' (first | exact rfl | exact AvIs.refl _ | exact trivial | exact fun _ _ => rfl | exact fun _ _ => ⟨rfl, AvIs.refl _⟩ | exact cI (by omega) | refine ⟨?_, ?_⟩))) ⟨frI, frI, frI, ⟨rfl, rfl, rfl⟩, rfl, fun j hj => (rowTo_succ hlt j)⟩, by omega⟩
    have hie : i = k.clauses.length := by omega
    subst hie
    obtain ⟨hf1, hf2⟩ := fits_facts h2
    have hidx : idxOk k.clauses.length p.clauses := incB_idx (by omega) hf2
    have hk2 : p.kind = 2 → 0 < p.clauses.length := fun h => by
      rw [h] at he
      have : e = ⟨1, 1, true, false⟩ := by simpa [efOf] using he.symm
      rw [this] at hf1
      have := hf1.1
      simp only at this
      omega
    have ef := eff_ok k.clauses p hp he hidx hk2 hc hs (by omega)
    have hdl := doP_len (cs := k.clauses) (p := p)
    have hdw := doP_W (cs := k.clauses) hp hk.2.2.2.2.1
    generalize doP k.clauses p = D at *
    have hkD : kW { k with clauses := D } := ⟨hk.1, hk.2.1, hk.2.2.1, hk.2.2.2.1, hdw, hk.2.2.2.2.2⟩
    have vd := kValid_ok { k with clauses := D } hkD
    refine XK.weak (st' := ST.of [(2, .ptr 2 0), (3, .rptr (ptC p)), (4, .ptr 4 0), (5, .c (.int .i64 0)), (8, .ptr 317 0), (10, .vec 675 0)]
      [(2, .cells 27 (kC k)), (4, .cells 27 [.c (.int .i64 0), .c (.slice none 0 0), .c (.slice none 0 0), .c (.slice none 0 0), .c (.slice none 0 0), .c (.int .i64 0), .c (.slice none 0 0)]),
       (317, .cells 90 [.c (.int .i64 e.least), .c (.int .i64 e.most), .c (.bool e.renewed), .c (.bool e.spanned), .fn (.func (effFn p.kind)) [] []]), (675, clsO 0 k.clauses)] 2000 103 (fun _ => false))
      (Weak.of hN rfl rfl rfl (by (repeat' (first | exact rfl | exact AvIs.refl _ | exact trivial | exact fun _ _ => rfl | exact fun _ _ => ⟨rfl, AvIs.refl _⟩ | exact cI (by omega) | refine ⟨?_, ?_⟩))) ⟨frI, frI, frI, ⟨rfl, rfl, rfl⟩, rfl, fun j hj => by show clC _ = bif Nat.blt j k.clauses.length then _ else _; rw [show Nat.blt j k.clauses.length = true from Nat.ble_eq_true_of_le hj]; rfl⟩) ?_
    (repeat (first | refine XK.n ?_ | refine XK.a ?_ | refine XK.b ?_))
    (repeat (first | refine XK.n ?_ | refine XK.a ?_ | refine XK.b ?_)); refine XK.region ?_; refine XL.g ?_
    refine XL.callMA [675] hE rfl rfl rfl rfl trivial (ef) rfl rfl rfl rfl rfl ?_
    refine XL.g ?_; refine XL.fin ?_; (repeat (first | refine XK.n ?_ | refine XK.a ?_ | refine XK.b ?_))
    refine XK.weak (Weak.frozen (k := 675) hN rfl rfl) ?_
    refine XK.weak (st' := ST.of [(2, .ptr 2 0), (4, .ptr 4 0), (5, .c (.int .i64 0))]
      [(2, .cells 27 (kC { k with clauses := D })), (4, .cells 27 [.c (.int .i64 0), .c (.slice none 0 0), .c (.slice none 0 0), .c (.slice none 0 0), .c (.slice none 0 0), .c (.int .i64 0), .c (.slice none 0 0)])] 3000 103 (fun _ => false)) (Weak.of hN rfl rfl rfl frI frI) ?_
    (repeat (first | refine XK.n ?_ | refine XK.a ?_ | refine XK.b ?_)); refine XK.region ?_; refine XL.g ?_
    refine XL.callLA hE rfl rfl rfl rfl trivial rfl (vd) rfl ?_
    refine XL.g ?_; refine XL.fin ?_; (repeat (first | refine XK.n ?_ | refine XK.a ?_ | refine XK.b ?_))
    (repeat (first | refine XK.n ?_ | refine XK.a ?_ | refine XK.b ?_)); refine XK.cond rfl (fun h5 => ?_) (fun h5 => ?_)
    · have h5 : (kValid { k with clauses := D }).1 ≠ 0 := by simpa using h5
      rw [if_pos h5]
      (repeat (first | refine XK.n ?_ | refine XK.a ?_ | refine XK.b ?_))
      (first | refine XK.out rfl rfl rfl ?_ | refine XK.outN rfl rfl rfl ?_)
      rfl
    have h5 : (kValid { k with clauses := D }).1 = 0 := by simpa using h5
    rw [if_neg (by simpa using h5)]
    (repeat (first | refine XK.n ?_ | refine XK.a ?_ | refine XK.b ?_)); refine XK.drawn hm ?_; refine XD.goA hT rfl rfl rfl rfl ?_
    refine XD.callKA hE rfl rfl rfl rfl trivial rfl rfl (cln_ints k.holders (by have := hF.nh; omega)) ?_
    refine XD.goA hT rfl rfl rfl rfl ?_
    refine XD.callKA hE rfl rfl rfl rfl trivial rfl rfl (cln_units k.units (by have := units_len h1; omega)) ?_
    refine XD.goA hT rfl rfl rfl rfl ?_; refine XD.fin (by kernel_rfl) ?_; (repeat (first | refine XK.n ?_ | refine XK.a ?_ | refine XK.b ?_))
    (repeat (first | refine XK.n ?_ | refine XK.a ?_ | refine XK.b ?_)); refine XK.drawn hm ?_; refine XD.goA hT rfl rfl rfl rfl ?_
    refine XD.callKA hE rfl rfl rfl rfl trivial rfl rfl (cln_acts k.acts (by have := hF.na; omega)) ?_
    refine XD.goA hT rfl rfl rfl rfl ?_
    refine XD.callKA hE rfl rfl rfl rfl trivial rfl rfl (cln_ints k.off (by have := off_len hF; omega)) ?_
    refine XD.goA hT rfl rfl rfl rfl ?_; refine XD.fin (by kernel_rfl) ?_; (repeat (first | refine XK.n ?_ | refine XK.a ?_ | refine XK.b ?_))
    (first | refine XK.out rfl rfl rfl ?_ | refine XK.outN rfl rfl rfl ?_)
    rfl
theorem applyR_cases (k : K) (p : Pt) : ((applyR k p).2 ≠ 0 ∧ (applyR k p).1 = zeroK) ∨ ((applyR k p).2 = 0 ∧ (kValid k).1 = 0 ∧ (applyR k p).1 = { k with clauses := doP k.clauses p } ∧ (kValid (applyR k p).1).1 = 0 ∧ ∃ e, efOf p.kind = some e ∧ fitsB k.clauses.length p e = true) := by
  by_cases h1 : (kValid k).1 = 0
  · rw [applyR, if_neg (by simpa using h1)]
    cases he : efOf p.kind with
    | none => exact .inl ⟨by simp, rfl⟩
    | some e =>
      dsimp only
      by_cases h2 : fitsB k.clauses.length p e = false
      · rw [if_pos h2]; exact .inl ⟨by simp, rfl⟩
      · rw [if_neg h2]
        by_cases h3 : p.kind = 1 ∧ k.clauses.length = 400
        · rw [if_pos h3]; exact .inl ⟨by simp, rfl⟩
        · rw [if_neg h3]
          by_cases h4 : (kValid { k with clauses := doP k.clauses p }).1 = 0
          · rw [if_neg (by simpa using h4)]
            exact .inr ⟨rfl, h1, rfl, h4, e, rfl, by simpa using h2⟩
          · rw [if_pos (by simpa using h4)]; exact .inl ⟨by simp, rfl⟩
  · rw [applyR, if_pos (by simpa using h1)]; exact .inl ⟨by simp, rfl⟩
theorem zeroK_W : kW zeroK := by simp [kW, zeroK, inK]
theorem applyR_W {k : K} (hk : kW k) {p : Pt} (hp : ptW p) : kW (applyR k p).1 := by
  rcases applyR_cases k p with ⟨_, h⟩ | ⟨_, _, h, _⟩
  · rw [h]; exact zeroK_W
  · rw [h]
    exact ⟨hk.1, hk.2.1, hk.2.2.1, hk.2.2.2.1, doP_W hp hk.2.2.2.2.1, hk.2.2.2.2.2⟩
theorem apply_ok (k : K) (hk : kW k) (p : Pt) (hp : ptW p) (hc : p.clauses.length ≤ 1000000) (hs : p.new.start.length ≤ 1000000) : Does Tryz.prog 9 [kV k, ptV p] (.tup [kV (applyR k p).1, .c (.int .i64 (applyR k p).2)]) :=
  (apply_ok0 k hk p hp hc hs).weaken (AvS.tupS ⟨kE_is (fun h => by
    rcases applyR_cases k p with ⟨_, h'⟩ | ⟨h', _⟩
    · exact h'
    · exact absurd h' h), AvS.refl _, trivial⟩)
end Go.Proofs.YtlhmgphgnedlkaaGreat
end
