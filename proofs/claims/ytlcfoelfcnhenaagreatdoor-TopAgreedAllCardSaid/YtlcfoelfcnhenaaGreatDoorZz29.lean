import Derived.Test.YtlcfoelfcnhenaaGreatDoorZz14
import Derived.Test.YtlcfoelfcnhenaaGreatDoorZz27
import Derived.Test.YtlcfoelfcnhenaaGreatDoorZz28
import Derived.Test.YtlcfoelfcnhenaaGreatDoorZz21
import Derived.Test.YtlcfoelfcnhenaaGreatDoorZz23
set_option linter.unusedSimpArgs false
set_option linter.unusedVariables false
set_option maxRecDepth 10000
namespace Go.Proofs.YtlcfoelfcnhenaaGreatDoor
section
open Go.Eng Go.RowKit Go.Lib Go.Sort
def small30 (l : List Lt) : Bool :=
  if (20 : Int) < l.length then false else l.all (fun x => small24B x.patch && decide ((x.sum.size : Int) ≤ 200))
theorem small30_ok (l : List Lt) : Does Tryz.prog 6 [ltsV l, .c (.int .i64 20)] (.c (.bool (small30 l))) := by
  refine Does.mk (fun _ => false) TT_ok Tryz.func6 rfl (by kernel_rfl) Tryz.ntmps6 rfl rfl fun E hT hE hN hR => ?_
  have hm := mixO hE
  (repeat (first | refine XK.n ?_ | refine XK.a ?_ | refine XK.b ?_)); refine XK.cond rfl (fun h1 => ?_) (fun h1 => ?_) <;> (try simp at h1)
  · (repeat (first | refine XK.n ?_ | refine XK.a ?_ | refine XK.b ?_))
    (first | refine XK.o ?_ | refine XK.p ?_)
    rw [small30, if_pos (by omega)]
  · rw [small30, if_neg (by omega)]
    have hl : l.length ≤ 20 := by omega
    (repeat (first | refine XK.n ?_ | refine XK.a ?_ | refine XK.b ?_))
    refine XK.loop (ι := Nat) (fun i => ST.of [(0, ltsV l), (4, .c (.bool false)), (5, .c (.int .i64 i))] [] 1000 32 (fun _ => false))
      (fun i => i ≤ l.length ∧ ∀ j, j < i → (small24B (l.getD j default).patch && decide (((l.getD j default).sum.size : Int) ≤ 200)) = true) (fun i => l.length - i) 0 ⟨Nat.zero_le _, fun j hj => absurd hj (Nat.not_lt_zero _)⟩
      (Weak.of hN rfl rfl rfl frI frI) fun i hi => ?_
    obtain ⟨hi1, hi2⟩ := hi
    (repeat (first | refine XK.n ?_ | refine XK.a ?_ | refine XK.b ?_)); refine XK.cond rfl (fun hlt => ?_) (fun hlt => ?_) <;> (try simp at hlt)
    · have fx : l.getD (i : Int).toNat default = l.getD i default := rfl
      have c1 := small24_ok (l.getD i default).patch
      (repeat (first | refine XK.n ?_ | refine XK.a ?_ | refine XK.b ?_))
      (repeat (first | refine XK.n ?_ | refine XK.a ?_ | refine XK.b ?_)); refine XK.region ?_; refine XL.g ?_
      rw [fx]
      refine XL.callLA hE rfl rfl rfl rfl trivial rfl (c1) rfl ?_
      refine XL.g ?_; refine XL.fin ?_; (repeat (first | refine XK.n ?_ | refine XK.a ?_ | refine XK.b ?_))
      (repeat (first | refine XK.n ?_ | refine XK.a ?_ | refine XK.b ?_)); refine XK.cond rfl (fun h2 => ?_) (fun h2 => ?_) <;> (try simp at h2)
      · (repeat (first | refine XK.n ?_ | refine XK.a ?_ | refine XK.b ?_))
        (first | refine XK.o ?_ | refine XK.p ?_)
        have : l.all (fun x => small24B x.patch && decide ((x.sum.size : Int) ≤ 200)) = false := all_not hlt (by
          rw [List.getD_eq_getElem?_getD]
          rcases h2 with h2 | h2
          · rw [h2]; rfl
          · simp; intro _; omega)
        rw [this]
      · (repeat (first | refine XK.n ?_ | refine XK.a ?_ | refine XK.b ?_))
        refine XK.inv ⟨i + 1, ⟨hlt, fun j hj => ?_⟩, (Weak.of hN rfl rfl rfl frI frI), by omega⟩
        by_cases h : j = i
        · subst h; simp at h2 ⊢; exact h2
        · exact hi2 j (by omega)
    · (repeat (first | refine XK.n ?_ | refine XK.a ?_ | refine XK.b ?_))
      (first | refine XK.o ?_ | refine XK.p ?_)
      have : l.all (fun x => small24B x.patch && decide ((x.sum.size : Int) ≤ 200)) = true := all_at.2 fun j hj => hi2 j (by omega)
      rw [this]
def withO (kd q : Int) (l : List Lt) (i : Nat) : List Lt := (l.take i).filter (fun x => x.kind != kd || x.party != q)
theorem withO_succ {kd q : Int} {l : List Lt} {i : Nat} (hi : i < l.length) : withO kd q l (i + 1) = if ((l.getD i default).kind != kd || (l.getD i default).party != q) = true then withO kd q l i ++ [l.getD i default] else withO kd q l i := by
  have h2 : l[i] = l.getD i default := by rw [List.getD_eq_getElem?_getD, List.getElem?_eq_getElem hi]; rfl
  unfold withO
  rw [List.take_add_one, List.getElem?_eq_getElem hi, h2, List.filter_append]
  by_cases h : ((l.getD i default).kind != kd || (l.getD i default).party != q) = true
  · rw [if_pos h, show (some (l.getD i default)).toList = [l.getD i default] from rfl, List.filter_cons_of_pos (p := fun x : Lt => x.kind != kd || x.party != q) h]; rfl
  · rw [if_neg h, show (some (l.getD i default)).toList = [l.getD i default] from rfl, List.filter_cons_of_neg (p := fun x : Lt => x.kind != kd || x.party != q) h]; exact List.append_nil _
theorem withO_len (kd q : Int) (l : List Lt) (i : Nat) : (withO kd q l i).length ≤ l.length := by
  have := List.length_filter_le (fun x : Lt => x.kind != kd || x.party != q) (l.take i)
  rw [List.length_take] at this
  unfold withO
  omega
def ltO (L : List Lt) : Ob := .vec 60 25 0 L.length (fun i => ltC (L.getD i default))
theorem without_ok (kd q : Int) (l : List Lt) (hl : l.length ≤ 1000) : Does Tryz.prog 8 [ltsV l, .c (.int .i64 kd), .c (.int .i64 q)] (ltsV (withO kd q l l.length)) := by
  refine Does.mk (fun _ => false) TT_ok Tryz.func8 rfl (by kernel_rfl) Tryz.ntmps8 rfl rfl fun E hT hE hN hR => ?_
  have hm := mixO hE
  (repeat (first | refine XK.n ?_ | refine XK.a ?_ | refine XK.b ?_))
  refine XK.loop (ι := Nat) (fun i => ST.of [(0, ltsV l), (1, .c (.int .i64 kd)), (2, .c (.int .i64 q)), (7, .vec 999 0), (8, .c (.int .i64 i))] [(999, ltO (withO kd q l i))] 1000 39 (fun _ => false))
    (fun i => i ≤ l.length) (fun i => l.length - i) 0 (Nat.zero_le _)
    (Weak.trans (Weak.ghost (j := 7) (k := 999) (e := 60) (sz := 25) (f := fun _ => []) rfl rfl) (Weak.of hN rfl rfl rfl frI ⟨⟨rfl, rfl, rfl⟩, rfl, fun j hj => absurd hj (Nat.not_lt_zero _)⟩)) fun i hi => ?_
  have hwl := withO_len kd q l i
  (repeat (first | refine XK.n ?_ | refine XK.a ?_ | refine XK.b ?_)); refine XK.cond rfl (fun hlt => ?_) (fun hlt => ?_) <;> (try simp at hlt)
  · have fx : l.getD (i : Int).toNat default = l.getD i default := rfl
    have hs := withO_succ (kd := kd) (q := q) hlt
    (repeat (first | refine XK.n ?_ | refine XK.a ?_ | refine XK.b ?_)); refine XK.cond rfl (fun h1 => ?_) (fun h1 => ?_)
    · rw [if_pos (by simpa using h1)] at hs
      (repeat (first | refine XK.n ?_ | refine XK.a ?_ | refine XK.b ?_))
      refine XK.inv ⟨i + 1, hlt, ?_, by omega⟩
      rw [hs]
      exact Weak.trans (Weak.stamp (k := 999) (t := 0) hN rfl rfl) (Weak.of hN rfl rfl rfl frI ⟨⟨rfl, rfl, rfl⟩, by simp, row_snoc ltC (withO kd q l i) (l.getD i default) _ rfl⟩)
    · rw [if_neg (by simpa using h1)] at hs
      (repeat (first | refine XK.n ?_ | refine XK.a ?_ | refine XK.b ?_))
      refine XK.inv ⟨i + 1, hlt, ?_, by omega⟩
      rw [hs]
      exact (Weak.of hN rfl rfl rfl frI frI)
  · have hie : i = l.length := by omega
    subst hie
    (repeat (first | refine XK.n ?_ | refine XK.a ?_ | refine XK.b ?_))
    refine XK.weak (Weak.trans (Weak.frozen (k := 999) hN rfl rfl) (Weak.of (L := [(6, ltsV (withO kd q l l.length))]) (O := []) (nx := 1000) (nt := 39) (md := fun _ => false) hN rfl rfl rfl frI trivial)) ?_
    (repeat (first | refine XK.n ?_ | refine XK.a ?_ | refine XK.b ?_))
    (first | refine XK.o ?_ | refine XK.p ?_)
    rfl
end
section
open Go.Eng Go.RowKit Go.Lib Go.Sort
def dutyCl : Cl := ⟨1, 0, 0, 1, [], 3, 0, false, true, -1, -1, (0, 1), -1, -1, false⟩
def dutyK : K := ⟨2, [0, 1], [], [⟨1, 0, 0, -1, -1, (0, 1)⟩], [dutyCl], 6, []⟩
theorem dutyK_W : kW dutyK := by
  simp [kW, dutyK, dutyCl, inK, clW, actW, qW]
theorem duty_ok : Does Tryz.prog 16 [] (kV dutyK) := by
  refine Does.weaken (res := ?x) ?_ ?_
  rotate_left
  refine Does.mk (fun _ => false) TT_ok Tryz.func16 rfl (by kernel_rfl) Tryz.ntmps16 rfl rfl fun E hT hE hN hR => ?_
  have hm := mixO hE
  (repeat (first | refine XK.n ?_ | refine XK.a ?_ | refine XK.b ?_))
  (first | refine XK.o ?_ | refine XK.p ?_)
  rfl
  · refine AvS.agg ⟨AvS.refl _, AvS.rs (fun i hi => ?_), AvS.nil, AvS.rs (fun i hi => ?_), AvS.rs (fun i hi => ?_), AvS.refl _, AvS.nil, trivial⟩
    · rcases i with _ | _ | i <;> first | exact AvSL.refl _ | omega
    · cases Nat.lt_one_iff.1 hi; exact AvSL.refl _
    · cases Nat.lt_one_iff.1 hi
      exact ⟨AvS.refl _, AvS.refl _, AvS.refl _, AvS.refl _, AvS.nil, AvS.refl _, AvS.refl _, AvS.refl _, AvS.refl _, AvS.refl _, AvS.refl _, AvS.refl _, AvS.refl _, AvS.refl _, AvS.refl _, AvS.refl _, trivial⟩
def ptD : Pt := ⟨5, [0], default, 5⟩
def zPt : Pt := ⟨0, [], default, 0⟩
def exX : Lt := ⟨1, 0, 1, 1, 2, ptD, emS⟩
def exY (d : ByteArray) : Lt := ⟨2, 1, 1, 1, 0, zPt, d⟩
theorem dfCl_Wa : clW default := by
  refine ⟨?_, ?_, ?_, ?_, fun x hx => (by cases hx), ?_, ?_, ?_, ?_, ⟨?_, ?_⟩, ?_, ?_⟩ <;> (show _ ≤ _ ∧ _ ≤ _; decide)
theorem exX_W : ltW exX := by
  refine ⟨?_, ?_, ?_, ?_, ?_, ?_, ?_, dfCl_Wa, ?_⟩
  rotate_left 6
  · intro x hx
    have : x = 0 := by simpa [exX, ptD] using hx
    subst this
    simp [inK]
  all_goals (show _ ≤ _ ∧ _ ≤ _; decide)
theorem exY_W (d : ByteArray) : ltW (exY d) := by
  refine ⟨?_, ?_, ?_, ?_, ?_, ?_, fun x hx => ?_, dfCl_Wa, ?_⟩
  rotate_left 6
  · cases hx
  all_goals (simp [exY, zPt, inK])
theorem exTx : (textS ptD == emS) = false := by
  have h : textS ptD ≠ emS := by
    intro h
    have h2 := congrArg ByteArray.size h
    rw [textS, if_neg (by decide)] at h2
    have h3 : (ByteArray.mk (patchB ++ wrL (pL7 ptD)).toArray).size = (patchB ++ wrL (pL7 ptD)).length := by simp [ByteArray.size]
    rw [h3, List.length_append] at h2
    have h4 : patchB.length = 5 := rfl
    have h5 : emS.size = 0 := rfl
    omega
  cases hb : textS ptD == emS with
  | false => rfl
  | true => exact absurd ((Go.MapKept.bytes_beq _ _).1 hb) h
theorem ofX : ofB 1 2 exX = true := by
  have hw : wfB exX = true := by
    unfold wfB
    have h1 : textS exX.patch = textS ptD := rfl
    rw [h1, exTx]
    rfl
  unfold ofB
  rw [hw]
  rfl
theorem wfY (d : ByteArray) : wfB (exY d) = true := by rfl
theorem prT_ex (v : Value) : prT 2 [exX, exY (digS exX)] 2 v = bif keyEq v (.string (digS exX)) then some ⟨exX, digS exX, 0⟩ else none := by
  have h2 : ofB 1 2 (exY (digS exX)) = false := rfl
  show prStep 2 (prStep 2 (fun _ => none) exX) (exY (digS exX)) v = _
  unfold prStep
  rw [if_neg (by rw [h2]; simp), if_pos ofX]
  rfl
theorem acT_ex (d : ByteArray) (v : Value) : acT 2 [exX, exY d] 2 v = bif keyEq v (acK 1 1 d) then some 1 else none := by
  have h1 : ofB 2 2 exX = false := rfl
  have h2 : ofB 2 2 (exY d) = true := by unfold ofB; rw [wfY]; rfl
  show acStep 2 (acStep 2 (fun _ => none) exX) (exY d) v = _
  unfold acStep
  rw [if_pos h2]
  simp only [if_neg (show ¬ ofB 2 2 exX = true by rw [h1]; simp)]
  rfl
theorem acT_ex1 (d : ByteArray) : acT 2 [exX, exY d] 2 (acK 1 1 d) = some 1 := by
  rw [acT_ex, keyEq_self (kk := kkA) rfl]
  rfl
theorem wdT_ex (d : ByteArray) (m : Nat) : (wdT 2 [exX, exY d] 2).W m = [] := by
  have h1 : ofB 3 2 exX = false := rfl
  have h2 : ofB 3 2 (exY d) = false := rfl
  show (if ofB 3 2 (exY d) = true then _ else if ofB 3 2 exX = true then _ else _ : WdS).W m = []
  rw [h1, h2]
  rfl
def exA11 : Am := ⟨1, 2, 1, ptD⟩
theorem agreedEx : Does Tryz.prog 7 [.c (.int .i64 2), ltsV [exX, exY (digS exX)]] (amsV [exA11]) := by
  have hk : knM ⟨exX, digS exX, 0⟩ (acT 2 [exX, exY (digS exX)] [exX, exY (digS exX)].length) 2 = 1 := by
    have e : acT 2 [exX, exY (digS exX)] [exX, exY (digS exX)].length (acK 1 1 (digS exX)) = some 1 := acT_ex1 (digS exX)
    have h0 : knM ⟨exX, digS exX, 0⟩ (acT 2 [exX, exY (digS exX)] [exX, exY (digS exX)].length) 1 = 1 := rfl
    rw [knM, h0, if_neg (by decide)]
    show mx2 1 ((acT 2 [exX, exY (digS exX)] [exX, exY (digS exX)].length (acK 1 1 (digS exX))).getD 0) = 1
    rw [e]
    rfl
  have h := agreedOne_ok [exX, exY (digS exX)] (by
      intro x hx
      rcases List.mem_cons.1 hx with h | h
      · rw [h]; exact exX_W
      · rw [List.mem_singleton.1 h]; exact exY_W _) (by decide) (digS exX) ⟨exX, digS exX, 0⟩ prT_ex
    (fun i hi => by
      rcases i with _ | _ | i
      · exact .inl rfl
      · right
        have e : acT 2 [exX, exY (digS exX)] [exX, exY (digS exX)].length (acK 1 1 (digS exX)) = some 1 := acT_ex1 (digS exX)
        show (acT 2 [exX, exY (digS exX)] [exX, exY (digS exX)].length (acK 1 1 (digS exX))).isSome = true
        rw [e]; rfl
      · omega) ⟨exX, digS exX, 1⟩ (by rw [hk]) (by decide) (fun m => wdT_ex _ m) (by decide) (by decide)
  exact h
theorem exA1 : (inForceR dutyK [exA11] 1 9).2 = 0 ∧ (inForceR dutyK [exA11] 1 9).1.2 = [] ∧ (inForceR dutyK [exA11] 1 9).1.1.clauses.length = 1 ∧ ((inForceR dutyK [exA11] 1 9).1.1.clauses.getD 0 default).after = 3 := by decide +kernel
theorem exA2 : (inForceR dutyK [exA11] 2 9).2 = 0 ∧ (inForceR dutyK [exA11] 2 9).1.2 = [1] ∧ (inForceR dutyK [exA11] 2 9).1.1.clauses.length = 1 ∧ ((inForceR dutyK [exA11] 2 9).1.1.clauses.getD 0 default).after = 5 := by decide +kernel
def rowX : List AV := [.c (.int .i64 1), .c (.int .i64 0), .c (.int .i64 1), .c (.int .i64 1), .c (.int .i64 2), .c (.int .i64 5), .rs 1 1 (rowOf [.c (.int .i64 0)] 1), .c (.int .i64 0), .c (.int .i64 0), .c (.int .i64 0), .c (.int .i64 0), .c (.slice none 0 0), .c (.int .i64 0), .c (.int .i64 0), .c (.bool false), .c (.bool false), .c (.int .i64 0), .c (.int .i64 0), .c (.int .i64 0), .c (.int .i64 0), .c (.int .i64 0), .c (.int .i64 0), .c (.bool false), .c (.int .i64 5), .c (.string { data := #[] })]
def rowY (d : ByteArray) : List AV := [.c (.int .i64 2), .c (.int .i64 1), .c (.int .i64 1), .c (.int .i64 1), .c (.int .i64 0), .c (.int .i64 0), .c (.slice none 0 0), .c (.int .i64 0), .c (.int .i64 0), .c (.int .i64 0), .c (.int .i64 0), .c (.slice none 0 0), .c (.int .i64 0), .c (.int .i64 0), .c (.bool false), .c (.bool false), .c (.int .i64 0), .c (.int .i64 0), .c (.int .i64 0), .c (.int .i64 0), .c (.int .i64 0), .c (.int .i64 0), .c (.bool false), .c (.int .i64 0), .c (.string d)]
theorem rowX_is : AvSL rowX (ltC exX) := by
  refine ⟨AvS.refl _, AvS.refl _, AvS.refl _, AvS.refl _, AvS.refl _, AvS.refl _, AvS.rs (fun i hi => ?_), AvS.refl _, AvS.refl _, AvS.refl _, AvS.refl _, AvS.nil, AvS.refl _, AvS.refl _, AvS.refl _, AvS.refl _, AvS.refl _, AvS.refl _, AvS.refl _, AvS.refl _, AvS.refl _, AvS.refl _, AvS.refl _, AvS.refl _, AvS.refl _, trivial⟩
  cases Nat.lt_one_iff.1 hi; exact AvSL.refl _
theorem rowY_is (d : ByteArray) : AvSL (rowY d) (ltC (exY d)) :=
  ⟨AvS.refl _, AvS.refl _, AvS.refl _, AvS.refl _, AvS.refl _, AvS.refl _, AvS.nil, AvS.refl _, AvS.refl _, AvS.refl _, AvS.refl _, AvS.nil, AvS.refl _, AvS.refl _, AvS.refl _, AvS.refl _, AvS.refl _, AvS.refl _, AvS.refl _, AvS.refl _, AvS.refl _, AvS.refl _, AvS.refl _, AvS.refl _, AvS.refl _, trivial⟩
def exRow11 (d : ByteArray) : Nat → List AV := rowOf (rowX ++ rowY d) 25
theorem exRow11_is (d : ByteArray) : AvS (.rs 25 2 (exRow11 d)) (ltsV [exX, exY d]) := by
  refine AvS.rs (fun i hi => ?_)
  rcases i with _ | _ | i
  · exact rowX_is
  · exact rowY_is d
  · omega
theorem w11Agreed_ok : Does Tryz.prog 4 [] (.c (.bool true)) := by
  have c1 := (digest_ok exX exX_W).argS (args' := [.agg rowX]) ⟨AvS.agg rowX_is, trivial⟩
  have c2 := agreedEx.argS (args' := [.c (.int .i64 2), .rs 25 2 (exRow11 (digS exX))]) ⟨AvS.refl _, exRow11_is _, trivial⟩
  have hA : amsOk [exA11] := by
    intro a ha
    rw [List.mem_singleton.1 ha]
    exact ⟨⟨by simp [exA11, inK], by simp [exA11, inK], by simp [exA11, inK], exX_W.2.2.2.2.2⟩, by decide, by decide⟩
  have f1 := inForce_ok dutyK dutyK_W [exA11] hA 1 9 (.inr (by decide))
  have f2 := inForce_ok dutyK dutyK_W [exA11] hA 2 9 (.inr (by decide))
  generalize digS exX = d at *
  obtain ⟨a1, a2, a3, a4⟩ := exA1
  obtain ⟨b1, b2, b3, b4⟩ := exA2
  generalize inForceR dutyK [exA11] 1 9 = r1 at *
  generalize inForceR dutyK [exA11] 2 9 = r2 at *
  obtain ⟨⟨k1, n1⟩, e1⟩ := r1
  obtain ⟨⟨k2, n2⟩, e2⟩ := r2
  simp only at a1 a2 a3 a4 b1 b2 b3 b4
  subst a1 a2 b1 b2
  refine Does.mk (fun _ => false) TT_ok Tryz.func4 rfl (by kernel_rfl) Tryz.ntmps4 rfl rfl fun E hT hE hN hR => ?_
  have hm := mixO hE
  (repeat (first | refine XK.n ?_ | refine XK.a ?_ | refine XK.b ?_))
  (repeat (first | refine XK.n ?_ | refine XK.a ?_ | refine XK.b ?_)); refine XK.region ?_; refine XL.g ?_
  refine XL.callKA hE rfl rfl rfl rfl trivial rfl rfl (c1) ?_
  refine XL.g ?_; refine XL.fin ?_; (repeat (first | refine XK.n ?_ | refine XK.a ?_ | refine XK.b ?_))
  (repeat (first | refine XK.n ?_ | refine XK.a ?_ | refine XK.b ?_)); refine XK.region ?_; refine XL.g ?_
  refine XL.callKA hE rfl rfl rfl rfl trivial rfl rfl (c2) ?_
  refine XL.g ?_; refine XL.fin ?_; (repeat (first | refine XK.n ?_ | refine XK.a ?_ | refine XK.b ?_))
  (repeat (first | refine XK.n ?_ | refine XK.a ?_ | refine XK.b ?_)); refine XK.region ?_; refine XL.g ?_
  refine XL.callKA hE rfl rfl rfl rfl trivial rfl rfl (duty_ok) ?_
  refine XL.g ?_
  refine XL.callKA hE rfl rfl rfl rfl trivial rfl rfl (f1) ?_
  refine XL.g ?_; refine XL.fin ?_; (repeat (first | refine XK.n ?_ | refine XK.a ?_ | refine XK.b ?_))
  (repeat (first | refine XK.n ?_ | refine XK.a ?_ | refine XK.b ?_)); refine XK.region ?_; refine XL.g ?_
  refine XL.callKA hE rfl rfl rfl rfl trivial rfl rfl (duty_ok) ?_
  refine XL.g ?_
  refine XL.callKA hE rfl rfl rfl rfl trivial rfl rfl (f2) ?_
  refine XL.g ?_; refine XL.fin ?_; (repeat (first | refine XK.n ?_ | refine XK.a ?_ | refine XK.b ?_))
  have z1 : ((k1.clauses.getD (Int.toNat 0) default)).after = 3 := a4
  have z2 : ((k2.clauses.getD (Int.toNat 0) default)).after = 5 := b4
  (first | refine XK.o ?_ | refine XK.p ?_)
  rw [z1, z2]
  rfl
end
section
open Go.Eng
noncomputable def runL (k : K) (l : List Int) (i : Nat) : List St := (List.range (i + 1)).map (fun j => (runE k l j).1)
noncomputable def vrunR (k : K) (l : List Int) : List St × Int :=
  if (startS k).2 ≠ 0 then ([], (startS k).2) else if 4000 < l.length then ([], 3) else if (runE k l l.length).2 ≠ 0 then ([], (runE k l l.length).2)
  else (runL k l l.length, 0)
theorem runE_before {k : K} {l : List Int} {i : Nat} (h : (runE k l i).2 = 0) : ∀ j, j ≤ i → (runE k l j).2 = 0 := fun j hj => by
  by_cases h0 : (runE k l j).2 = 0
  · exact h0
  · rw [runE_stop h0 i hj] at h; exact absurd h h0
set_option maxHeartbeats 1000000
end
section
open Go.Eng
set_option maxHeartbeats 1000000 in
theorem runGo_ok (k : K) (hk : kW k) (l : List Am) (hl : amGd l) (known : Int) (tr : List Int) (h0 : (startS k).2 = 0) (hmx : (60 : Nat) ≤ 1 ∨ l.length ≤ 1 := by exact .inl (by decide)) :
    Does Tryz.prog 10 [kV k, amsV l, .c (.int .i64 known), intsV tr] (.tup [ksV (runR k l known tr).1.1, stsV (runR k l known tr).1.2, .c (.int .i64 (runR k l known tr).2)]) := by
  have hs := startS_ok k hk
  have hv := (startS_zero hk h0).1
  unfold runR
  rw [if_neg (by simpa using h0)]
  generalize startS k = s0 at hs h0
  obtain ⟨s0, e0⟩ := s0
  dsimp only at h0
  subst h0
  refine Does.mk (fun _ => false) TT_ok Tryz.func10 rfl (by kernel_rfl) Tryz.ntmps10 rfl rfl fun E hT hE hN hR => ?_
  have hm := mixO hE
  (repeat (first | refine XK.n ?_ | refine XK.a ?_ | refine XK.b ?_))
  (repeat (first | refine XK.n ?_ | refine XK.a ?_ | refine XK.b ?_)); refine XK.region ?_; refine XL.g ?_
  refine XL.callKA hE rfl rfl rfl rfl trivial rfl rfl (hs) ?_
  refine XL.g ?_; refine XL.fin ?_; (repeat (first | refine XK.n ?_ | refine XK.a ?_ | refine XK.b ?_))
  (repeat (first | refine XK.n ?_ | refine XK.a ?_ | refine XK.b ?_)); refine XK.cond rfl (fun h1 => ?_) (fun h1 => ?_) <;> (try simp at h1)
  (repeat (first | refine XK.n ?_ | refine XK.a ?_ | refine XK.b ?_)); refine XK.cond rfl (fun h2 => ?_) (fun h2 => ?_) <;> (try simp at h2)
  · rw [if_pos (by omega)]
    (repeat (first | refine XK.n ?_ | refine XK.a ?_ | refine XK.b ?_))
    refine XK.outL rfl rfl rfl ⟨⟨rfl, rfl⟩, ⟨rfl, rfl⟩, rfl⟩
  rw [if_neg (by omega)]
  have hll : l.length ≤ 60 := by omega
  have htl : tr.length ≤ 4000 := by omega
  have hlx : l.length ≤ 1 := by rcases hmx with h | h <;> omega
  (repeat (first | refine XK.n ?_ | refine XK.a ?_ | refine XK.b ?_))
  (repeat (first | refine XK.n ?_ | refine XK.a ?_ | refine XK.b ?_)); refine XK.region ?_; refine XL.g ?_
  refine XL.callKA hE rfl rfl rfl rfl trivial rfl rfl (order_ok l (by omega)) ?_
  refine XL.g ?_; refine XL.fin ?_; (repeat (first | refine XK.n ?_ | refine XK.a ?_ | refine XK.b ?_))
  have hol := ordI_len l
  refine XK.loop (ι := Nat) (fun i => ST.of [(1, amsV l), (2, .c (.int .i64 known)), (3, intsV tr), (4, .ptr 4 0), (8, .ptr 8 0), (9, .ptr 9 0), (10, .ptr 10 0), (13, .vec 700 0), (36, intsV (ordI l)), (37, .c (.int .i64 l.length)), (38, .c (.int .i64 i))]
      [(4, .cells 27 (kC k)), (8, .cells 38 [.c (.slice none 0 0)]), (9, .cells 39 [.c (.slice none 0 0)]), (10, .cells 35 [.c (.int .i64 0)]), (700, .vec 82 22 0 (consA l known i).length (fun j => amC ((consA l known i).getD j default)))] 1000 79 (fun _ => false))
    (fun i => i ≤ l.length) (fun i => l.length - i) 0 (Nat.zero_le _)
    (Weak.trans (Weak.ghost (j := 13) (k := 700) (e := 82) (sz := 22) (f := fun _ => []) rfl rfl) (Weak.of hN rfl rfl rfl (by (repeat' (first | exact rfl | exact AvIs.refl _ | exact trivial | exact fun _ _ => rfl | exact fun _ _ => ⟨rfl, AvIs.refl _⟩ | exact cI (by omega) | exact (cI (by omega)) | refine ⟨?_, ?_⟩))) (by (repeat' (first | exact rfl | exact AvIs.refl _ | exact trivial | exact fun _ _ => rfl | exact fun _ _ => ⟨rfl, AvIs.refl _⟩ | exact cI (by omega) | exact (fun j hj => absurd hj (Nat.not_lt_zero _)) | refine ⟨?_, ?_⟩))))) fun i hi => ?_
  (repeat (first | refine XK.n ?_ | refine XK.a ?_ | refine XK.b ?_)); refine XK.cond rfl (fun hlt => ?_) (fun hlt => ?_) <;> (try simp at hlt)
  · have hil : i < l.length := by omega
    have fx : (ordI l).getD (i : Int).toNat default = (ordAt l i : Nat) := ordI_at l hil
    have hop := ordAt_in hil
    have fa : l.getD ((ordAt l i : Nat) : Int).toNat default = l.getD (ordAt l i) default := rfl
    have hsn := consA_succ (known := known) hil
    have hle := consA_len l known i
    (repeat (first | refine XK.n ?_ | refine XK.a ?_ | refine XK.b ?_))
    rw [fx]
    generalize hop' : ordAt l i = o at *
    (repeat (first | refine XK.n ?_ | refine XK.a ?_ | refine XK.b ?_))
    rw [fa]
    generalize l.getD o default = a at *
    (repeat (first | refine XK.n ?_ | refine XK.a ?_ | refine XK.b ?_)); refine XK.cond rfl (fun h3 => ?_) (fun h3 => ?_)
    · have h3 : a.known ≤ known := by simpa using h3
      rw [if_pos h3] at hsn
      generalize consA l known i = L at *
      (repeat (first | refine XK.n ?_ | refine XK.a ?_ | refine XK.b ?_))
      rw [fa]
      refine XK.inv ⟨i + 1, hil, ?_, by omega⟩
      rw [hsn, len_snoc]
      exact Weak.trans (Weak.stamp (k := 700) (t := 0) hN rfl rfl) (Weak.of hN rfl rfl rfl frI ⟨frI, frI, frI, frI, ⟨rfl, rfl, rfl⟩, rfl, row_snoc amC _ _ _ rfl⟩)
    · have h3 : ¬ a.known ≤ known := by simpa using h3
      rw [if_neg h3] at hsn
      (repeat (first | refine XK.n ?_ | refine XK.a ?_ | refine XK.b ?_))
      refine XK.inv ⟨i + 1, hil, ?_, by omega⟩
      rw [hsn]
      exact (Weak.of hN rfl rfl rfl frI frI)
  have hie : i = l.length := by omega
  subst hie
  clear hlt hi
  have hcl := consA_len l known l.length
  have hcg := consA_gd hl known l.length
  have hkg : kGd k := ⟨hk, hv⟩
  generalize consA l known l.length = A at *
  have hst := stagesC_ok k A tr
  refine XK.weak (Weak.trans (Weak.frozen (k := 700) hN rfl rfl) (Weak.of (L := [(3, intsV tr), (4, .ptr 4 0), (8, .ptr 8 0), (9, .ptr 9 0), (10, .ptr 10 0), (13, amsV A)])
    (O := [(4, .cells 27 (kC k)), (8, .cells 38 [.c (.slice none 0 0)]), (9, .cells 39 [.c (.slice none 0 0)]), (10, .cells 35 [.c (.int .i64 0)])]) (nx := 2000) (nt := 79) (md := fun _ => false) hN rfl rfl rfl frI frI)) ?_
  (repeat (first | refine XK.n ?_ | refine XK.a ?_ | refine XK.b ?_))
  (repeat (first | refine XK.n ?_ | refine XK.a ?_ | refine XK.b ?_)); refine XK.region ?_; refine XL.g ?_
  refine XL.callKA hE rfl rfl rfl rfl trivial rfl rfl (hst) ?_
  refine XL.g ?_; refine XL.fin ?_; (repeat (first | refine XK.n ?_ | refine XK.a ?_ | refine XK.b ?_))
  generalize hsE : rnS k A tr (tr.length + 1) = sE
  have hsE : sE = rnS k A tr (tr.length + 1) := hsE.symm
  refine XK.weak (Weak.trans (Weak.ghostC (c := 2016) (k := 2017) (e := 27) (sz := 7) (f := fun _ => []) rfl rfl rfl) (Weak.trans (Weak.ghostC (c := 2096) (k := 2097) (e := 45) (sz := 4) (f := fun _ => []) rfl rfl rfl)
    (Weak.of (L := [(8, .ptr 8 0), (9, .ptr 9 0), (10, .ptr 10 0), (16, .ptr 2016 0), (17, .ptr 2096 0), (60, .fn (.func 65) [] [.rptr (kC k), .rptr [amsV A], .rptr [intsV tr]])])
      (O := [(8, .cells 38 [.c (.slice none 0 0)]), (9, .cells 39 [.c (.slice none 0 0)]), (10, .cells 35 [.c (.int .i64 0)]), (2016, .cells 38 [.vec 2017 0]), (2017, .vec 27 7 0 0 (fun i => kC (([] : List K).getD i default))), (2096, .cells 39 [.vec 2097 0]), (2097, .vec 45 4 0 0 (fun i => stC (([] : List St).getD i default)))])
      (nx := 3000) (nt := 79) (md := fun _ => false) hN rfl rfl rfl frI (by (repeat' (first | exact rfl | exact AvIs.refl _ | exact trivial | exact fun _ _ => rfl | exact fun _ _ => ⟨rfl, AvIs.refl _⟩ | exact cI (by omega) | exact (fun i hi => absurd hi (Nat.not_lt_zero _)) | refine ⟨?_, ?_⟩)))))) ?_
  refine XK.rangeFunc 900 [8, 9, 10, 2016, 2017, 2096, 2097] (frL 79 [(8, .ptr 8 0), (9, .ptr 9 0), (10, .ptr 10 0), (16, .ptr 2016 0), (17, .ptr 2096 0)])
    (ST.of [(8, .ptr 8 0), (9, .ptr 9 0), (10, .ptr 10 0), (16, .ptr 2016 0), (17, .ptr 2096 0)] [(8, .cells 38 [.c (.slice none 0 0)]), (9, .cells 39 [.c (.slice none 0 0)]), (10, .cells 35 [.c (.int .i64 sE.1)]), (2016, .cells 38 [.vec 2017 (2 * sE.2.1.length)]), (2017, .vec 27 7 (2 * sE.2.1.length) sE.2.1.length (fun i => kC (sE.2.1.getD i default))), (2096, .cells 39 [.vec 2097 (2 * sE.2.2.length)]), (2097, .vec 45 4 (2 * sE.2.2.length) sE.2.2.length (fun i => stC (sE.2.2.getD i default)))] 4000 79 (fun _ => false))
    (res := .tup []) (args' := [.rptr (kC k), .rptr [amsV A], .rptr [intsV tr]]) (s := if (stgTo k A tr tr.length).2 = 0 then .ready else .done) (pend := if (stgTo k A tr tr.length).2 = 0 then none else some .ret) (O' := runO sE.1 sE.2.1 sE.2.2) (O := runO 0 [] []) hR rfl trivial rfl (frL_length _ _) (frL_is frI) (fun L D fn => ?_) rfl frI rfl rfl frI rfl rfl (by split <;> simp) (fun L D fn cs => (Weak.of hN rfl rfl rfl frI frI)) ?_
  · rw [hsE, hE]
    refine stages_ok k hkg A hcg (by omega) tr (by omega) L L (recOf fn _ _ _ D) .ret _ (rnS k A tr) (fun i hi he m hm => rnS_stop (by rw [rnS_bad i he]; exact he) m hm) (fun i hi hz => ?_) ?_
    rotate_left
    · split <;> rfl
    have hkc := stg_kGd hkg hcg (tr := tr) (i := i)
    have hgd := rnS_good i hz
    have hrn : rnS k A tr (i + 1) = if (stgTo k A tr i).2 ≠ 0 then ((stgTo k A tr i).2, (rnS k A tr i).2) else (0, (rnS k A tr i).2.1 ++ [(stgTo k A tr i).1.1], (rnS k A tr i).2.2 ++ [(stgTo k A tr i).1.2]) := by
      rw [rnS, if_neg (by rw [hgd]; simp)]
    have hy1 : (rnS k A tr i).1 = 0 := by rw [hgd]
    have hy2 : (rnS k A tr i).2.1.length = i := by rw [hgd]; simp
    have hy3 : (rnS k A tr i).2.2.length = i := by rw [hgd]; simp
    rw [hrn]
    clear hrn hgd hsE
    generalize rnS k A tr i = y at *
    generalize stgTo k A tr i = x at *
    obtain ⟨e0, cs, ss⟩ := y
    obtain ⟨⟨c, s⟩, e⟩ := x
    dsimp only at hy1 hy2 hy3 hkc
    subst hy1
    have hcp := copiedC_ok c hkc.2 hkc.1
    refine DoesR.mkT TT_ok (fun _ => false) 100 (ST.of [(8, .ptr 1 0), (9, .ptr 2 0), (10, .ptr 3 0), (16, .ptr 4 0), (17, .ptr 6 0), (18, .ptr 118 0), (19, .c (.int .i64 e))]
      ((0, .lrec (recOf fn _ _ _ D .ready none) L csR) :: runN 0 cs ss ++ [(118, .cells 98 (kC c ++ stC s))]) 1000 79 (fun _ => false)) rfl ?_ (Nat.le_refl 7) (fun E hT hE hN hR => ?_) rfl (fun E hT hE hN hR => ?_)
    · intro x hx
      have hx : x = 61 ∨ x = 62 := by simpa using hx
      have : csR.length = 79 := frL_length _ _
      rcases hx with rfl | rfl
      · show 61 < csR.length; rw [this]; omega
      · show 62 < csR.length; rw [this]; omega
    · have hm := mixO hE
      (repeat (first | refine XK.n ?_ | refine XK.a ?_ | refine XK.b ?_))
      exact XK.nil ⟨rfl, (Weak.of hN rfl rfl rfl frI frI)⟩
    · have hm := mixO hE
      (repeat (first | refine XK.n ?_ | refine XK.a ?_ | refine XK.b ?_)); refine XK.cond rfl (fun h5 => ?_) (fun h5 => ?_) <;> (try simp at h5)
      · rw [if_pos h5]
        (repeat (first | refine XK.n ?_ | refine XK.a ?_ | refine XK.b ?_))
        (first | refine XK.outY [0, 1, 2, 3, 4, 5, 6, 7] hN rfl rfl rfl ?_ ?_ ?_ | refine XK.outYN [0, 1, 2, 3, 4, 5, 6, 7] hN rfl rfl rfl ?_ ?_ ?_)
        · exact frI
        · simp [h5]
        · rw [if_neg h5]
      · rw [if_neg (by simpa using h5)]
        subst h5
        refine XK.weak (Weak.trans (Weak.steal 500 (k := 5) (s := 2 * cs.length) (f' := fun _ => []) hN rfl rfl rfl) (Weak.trans (Weak.steal 501 (k := 7) (s := 2 * ss.length) (f' := fun _ => []) hN rfl rfl rfl) (Weak.of (L := [(8, .ptr 1 0), (9, .ptr 2 0), (10, .ptr 3 0), (16, .ptr 4 0), (17, .ptr 6 0), (18, .ptr 118 0)])
          (O := [(0, .lrec (recOf fn _ _ _ D .busy none) L csR), (1, .cells 38 [.c (.slice none 0 0)]), (2, .cells 39 [.c (.slice none 0 0)]), (3, .cells 35 [.c (.int .i64 0)]), (4, .cells 38 [.vec 500 0]), (5, .vec 27 7 (2 * cs.length + 1) 0 (fun _ => [])), (6, .cells 39 [.vec 501 0]), (7, .vec 45 4 (2 * ss.length + 1) 0 (fun _ => [])),
            (500, .vec 27 7 0 cs.length (fun i => kC (cs.getD i default))), (501, .vec 45 4 0 ss.length (fun i => stC (ss.getD i default))), (118, .cells 98 (kC c ++ stC s))]) (nx := 3000) (nt := 79) (md := fun _ => false) hN rfl rfl rfl frI
          ⟨⟨rfl, rfl, rfl⟩, frI, frI, frI, ⟨rfl, congrArg (fun x => [x]) (show AV.map (stealG 7 (2 * ss.length) 501) (AV.map (stealG 5 (2 * cs.length) 500) (.vec 5 (2 * cs.length))) = .vec 500 0 by rw [show AV.map (stealG 5 (2 * cs.length) 500) (.vec 5 (2 * cs.length)) = .vec 500 0 from stealG_self 5 (2 * cs.length) 500]; rfl)⟩, frI, ⟨rfl, congrArg (fun x => [x]) (show stealG 7 (2 * ss.length) 501 (.vec 7 (2 * ss.length)) = .vec 501 0 from stealG_self 7 (2 * ss.length) 501)⟩, frI, frI, frI, frI⟩))) ?_
        (repeat (first | refine XK.n ?_ | refine XK.a ?_ | refine XK.b ?_)); refine XK.drawn hm ?_; refine XD.goA hT rfl rfl rfl rfl ?_
        refine XD.callKA hE rfl rfl rfl rfl trivial rfl rfl (hcp) ?_
        refine XD.goA hT rfl rfl rfl rfl ?_; refine XD.fin (by kernel_rfl) ?_; (repeat (first | refine XK.n ?_ | refine XK.a ?_ | refine XK.b ?_))
        refine XK.nilY (Weak.trans (Weak.give (k := 5) (q := 500) (2 * (cs.length + 1)) hN rfl rfl rfl rfl (by omega)) (Weak.give (k := 7) (q := 501) (2 * (ss.length + 1)) hN rfl rfl rfl rfl (by omega))) ?_
        (first | refine XK.outY [0, 1, 2, 3, 4, 5, 6, 7] hN rfl rfl rfl ?_ ?_ ?_ | refine XK.outYN [0, 1, 2, 3, 4, 5, 6, 7] hN rfl rfl rfl ?_ ?_ ?_)
        · refine ⟨⟨rfl, rfl, rfl⟩, frI, frI, frI, ⟨rfl, by simp⟩, ⟨⟨rfl, rfl, by simp⟩, by simp, row_snoc kC cs c _ rfl⟩, ⟨rfl, by simp⟩, ⟨⟨rfl, rfl, by simp⟩, by simp, row_snoc stC ss s _ rfl⟩⟩
        · rfl
        · rfl
  · by_cases herr : (stgTo k A tr tr.length).2 = 0
    · rw [if_pos herr, if_neg (by simpa using herr)]
      have hg := rnS_good (tr.length + 1) (fun j hj => stg_before herr j (by omega))
      rw [hg] at hsE
      clear hg
      generalize (List.range (tr.length + 1)).map (fun j => (stgTo k A tr j).1.1) = CS at *
      generalize (List.range (tr.length + 1)).map (fun j => (stgTo k A tr j).1.2) = SS at *
      subst hsE
      show XK E _ _ (ST.of _ [_, _, _, _, (2017, .vec 27 7 (2 * CS.length) CS.length (fun i => kC (CS.getD i default))), _, (2097, .vec 45 4 (2 * SS.length) SS.length (fun i => stC (SS.getD i default)))] _ _ _)
      refine XK.weak (Weak.trans (Weak.stamp (k := 2017) (t := 0) hN rfl rfl) (Weak.trans (Weak.stamp (k := 2097) (t := 0) hN rfl rfl) (Weak.of (L := [(8, .ptr 8 0), (9, .ptr 9 0), (10, .ptr 10 0), (16, .ptr 2016 0), (17, .ptr 2096 0)])
        (O := [(8, .cells 38 [.c (.slice none 0 0)]), (9, .cells 39 [.c (.slice none 0 0)]), (10, .cells 35 [.c (.int .i64 0)]), (2016, .cells 38 [.vec 2017 0]), (2017, .vec 27 7 0 CS.length (fun i => kC (CS.getD i default))), (2096, .cells 39 [.vec 2097 0]), (2097, .vec 45 4 0 SS.length (fun i => stC (SS.getD i default)))])
        (nx := 5000) (nt := 79) (md := fun _ => false) hN rfl rfl rfl frI ⟨frI, frI, frI, ⟨rfl, congrArg (fun x => [x]) (show AV.map (stampG 2097 (2 * SS.length) 0) (AV.map (stampG 2017 (2 * CS.length) 0) (.vec 2017 (2 * CS.length))) = .vec 2017 0 by rw [show AV.map (stampG 2017 (2 * CS.length) 0) (.vec 2017 (2 * CS.length)) = .vec 2017 0 from stampG_self 2017 (2 * CS.length) 0]; rfl)⟩, frI, ⟨rfl, congrArg (fun x => [x]) (show AV.map (stampG 2097 (2 * SS.length) 0) (.vec 2097 (2 * SS.length)) = .vec 2097 0 from stampG_self 2097 (2 * SS.length) 0)⟩, frI⟩))) ?_
      refine XK.weak (Weak.trans (Weak.frozen (k := 2017) hN rfl rfl) (Weak.frozen (k := 2097) hN rfl rfl)) ?_
      (repeat (first | refine XK.n ?_ | refine XK.a ?_ | refine XK.b ?_))
      (first | refine XK.o ?_ | refine XK.p ?_)
      rfl
    · rw [if_neg herr, if_pos herr]
      have hb := rnS_bad tr.length herr
      rw [← hsE] at hb
      rw [hb]
      show XK E [.code .ret, _, _] _ _
      (repeat (first | refine XK.n ?_ | refine XK.a ?_ | refine XK.b ?_))
      (first | refine XK.outL rfl rfl rfl ?_ | refine XK.outLN rfl rfl rfl ?_)
      exact ⟨⟨rfl, rfl⟩, ⟨rfl, rfl⟩, rfl⟩
theorem run_ok (k : K) (hk : kW k) (l : List Am) (hl : amGd l) (known : Int) (tr : List Int) (hmx : (60 : Nat) ≤ 1 ∨ l.length ≤ 1 := by exact .inl (by decide)) :
    Does Tryz.prog 10 [kV k, amsV l, .c (.int .i64 known), intsV tr] (.tup [ksV (runR k l known tr).1.1, stsV (runR k l known tr).1.2, .c (.int .i64 (runR k l known tr).2)]) := by
  by_cases h0 : (startS k).2 = 0
  · exact runGo_ok k hk l hl known tr h0 hmx
  · have h := runErr_ok k hk l known tr h0
    unfold runR
    rw [if_pos h0]
    exact h.weaken (AvS.tupS ⟨AvS.nil, AvS.nil, AvS.refl _, trivial⟩)
end
section
open Go.Eng Go.RowKit Go.Lib Go.Sort
theorem run_noneA (k : K) (known : Int) (l : List Int) (hl : l.length ≤ 60) : (runR k [] known l).2 = (vrunR k l).2 ∧ ((vrunR k l).2 = 0 → (runR k [] known l).1.2 = (vrunR k l).1) := by
  have hc : consA [] known ([] : List Am).length = [] := rfl
  unfold runR vrunR
  rw [hc]
  by_cases h1 : (startS k).2 = 0
  · have n1 : ¬ (startS k).2 ≠ 0 := by simpa using h1
    have n2 : ¬ (60 < ([] : List Am).length ∨ 4000 < l.length) := by simp; omega
    have n3 : ¬ 4000 < l.length := by omega
    simp only [if_neg n1, if_neg n2, if_neg n3]
    rw [stg_none]
    dsimp only
    by_cases h2 : (runE k l l.length).2 = 0
    · rw [if_neg (by simpa using h2), if_neg (by simpa using h2)]
      refine ⟨rfl, fun _ => ?_⟩
      show List.map _ _ = List.map _ _
      refine List.map_congr_left fun i _ => ?_
      rw [stg_none]
    · rw [if_pos h2, if_pos h2]
      exact ⟨rfl, fun h => absurd h h2⟩
  · rw [if_pos h1, if_pos h1]
    refine ⟨?_, fun h => absurd h h1⟩
    revert h1
    unfold startS
    split
    · intro _; rfl
    · intro h; exact absurd rfl h
theorem vrun_good {k : K} {l : List Int} (h : (vrunR k l).2 = 0) : (∀ i, i ≤ l.length → (runE k l i).2 = 0) ∧ (vrunR k l).1.length = l.length + 1 ∧ ∀ i, i ≤ l.length → (vrunR k l).1.getD i default = (runE k l i).1 := by
  unfold vrunR at h ⊢
  by_cases h1 : (startS k).2 = 0
  · rw [if_neg (by simpa using h1)] at h ⊢
    by_cases h2 : 4000 < l.length
    · rw [if_pos h2] at h; cases h
    · rw [if_neg h2] at h ⊢
      by_cases h3 : (runE k l l.length).2 = 0
      · rw [if_neg (by simpa using h3)]
        refine ⟨runE_before h3, by simp [runL], fun i hi => ?_⟩
        show (runL k l l.length).getD i default = _
        exact map_getD _ (by omega)
      · rw [if_pos h3] at h; exact absurd h h3
  · rw [if_pos h1] at h; exact absurd h h1
theorem vrun_len2 (k : K) (l : List Int) : (vrunR k l).1.length ≤ l.length + 1 := by
  unfold vrunR
  split
  · simp
  · split
    · simp
    · split
      · simp
      · simp [runL]
theorem inForce_none {k : K} {day known : Int} (h : (inForceR k [] day known).2 = 0) : inForceR k [] day known = ((k, []), 0) := by
  unfold inForceR at h ⊢
  by_cases h1 : checkV k [] = 0
  · rw [if_neg (by simpa using h1)]; rfl
  · rw [if_pos h1] at h; exact absurd h h1
theorem withO_mem {kd q : Int} {l : List Lt} {i : Nat} {x : Lt} (h : x ∈ withO kd q l i) : x ∈ l ∧ (x.party = q → x.kind ≠ kd) := by
  unfold withO at h
  obtain ⟨h1, h2⟩ := List.mem_filter.1 h
  refine ⟨List.mem_of_mem_take h1, fun h3 h4 => ?_⟩
  simp [h3, h4] at h2
theorem lawAA (k : K) (hk : kW k) (l : List Lt) (hl : ∀ x ∈ l, ltW x) (p : Int) (hp : 0 ≤ p ∧ p ≤ 255) (day known : Int) (hdy : inK .i64 day) (hkn : inK .i64 known) (st : List Int) : Does Tryz.prog 3 [kV k, ltsV l, .c (.int .u8 p), .c (.int .i64 day), .c (.int .i64 known), intsV st] (.c (.bool true)) := by
  refine Does.mk (fun _ => false) TT_ok Tryz.func3 rfl (by kernel_rfl) Tryz.ntmps3 rfl rfl fun E hT hE hN hR => ?_
  have hm := mixO hE
  (repeat (first | refine XK.n ?_ | refine XK.a ?_ | refine XK.b ?_))
  (repeat (first | refine XK.n ?_ | refine XK.a ?_ | refine XK.b ?_)); refine XK.region ?_; refine XL.g ?_
  refine XL.callLA hE rfl rfl rfl rfl trivial rfl (w11Agreed_ok) rfl ?_
  refine XL.g ?_; refine XL.fin ?_; (repeat (first | refine XK.n ?_ | refine XK.a ?_ | refine XK.b ?_))
  (repeat (first | refine XK.n ?_ | refine XK.a ?_ | refine XK.b ?_))
  (repeat (first | refine XK.n ?_ | refine XK.a ?_ | refine XK.b ?_)); refine XK.region ?_; refine XL.g ?_
  refine XL.callLA hE rfl rfl rfl rfl trivial rfl (smallQ_ok k 12) rfl ?_
  refine XL.g ?_
  refine XL.callLG hE rfl rfl rfl rfl rfl rfl rfl (by first | (simp [AllP, impG]; done) | (simp only [AllP, impG]; grind)) rfl (fun hgd => ⟨small30_ok l, (by (repeat' (first | exact rfl | exact AvIs.refl _ | exact trivial | (intro i hi; rfl) | exact fun _ _ => ⟨rfl, AvIs.refl _⟩ | (intro i hi; rcases i with _ | _ | _ | _ | _ | _ | _ | i <;> first | rfl | exact absurd hi (by simp; done) | (simp at hi; omega)) | refine ⟨?_, ?_⟩)))⟩) rfl ?_
  refine XL.g ?_; refine XL.fin ?_; (repeat (first | refine XK.n ?_ | refine XK.a ?_ | refine XK.b ?_))
  (repeat (first | refine XK.n ?_ | refine XK.a ?_ | refine XK.b ?_)); refine XK.cond rfl (fun h1 => ?_) (fun h1 => ?_)
  · (repeat (first | refine XK.n ?_ | refine XK.a ?_ | refine XK.b ?_))
    (first | refine XK.o ?_ | refine XK.p ?_)
    rfl
  simp only [Bool.or_eq_false_iff, Bool.not_eq_false', decide_eq_false_iff_not] at h1
  obtain ⟨⟨⟨hsm, hs30⟩, h20⟩, hpar⟩ := h1
  have h20 : st.length ≤ 20 := by omega
  have hl20 : l.length ≤ 20 := by
    by_cases h : (20 : Int) < l.length
    · rw [small30, if_pos h] at hs30; cases hs30
    · omega
  obtain ⟨b1, b2, b3, b4, b5, b6⟩ := smallQ_len hsm
  have hKB : KB k := ⟨by omega, by omega, by omega, by omega, by omega, fun i hi => by have := b6 i hi; omega⟩
  have c4 := same24_ok k k hKB
  rw [(sameR_iff k k).2 rfl] at c4
  have hq0 : 0 ≤ p % k.parties := Int.emod_nonneg _ (by omega)
  have hq1 : p % k.parties < k.parties := Int.emod_lt_of_pos _ (by omega)
  obtain ⟨q, hq⟩ : ∃ q : Nat, (q : Int) = p % k.parties := ⟨(p % k.parties).toNat, by omega⟩
  have w1 := without_ok 1 q l (by omega)
  have hwl := withO_len 1 q l l.length
  have w2 := without_ok 2 q (withO 1 q l l.length) (by omega)
  have hag := agreedNo_ok k.parties (withO 2 q (withO 1 q l l.length) (withO 1 q l l.length).length) (fun x hx => hl x (withO_mem (withO_mem hx).1).1) q (by omega) (fun x hx hxq => ⟨(withO_mem (withO_mem hx).1).2 hxq, (withO_mem hx).2 hxq⟩)
  have hin := inForce_ok k hk [] (fun a ha => by cases ha) day known (.inr (by decide))
  have hrun := run_ok k hk [] (fun a ha => by cases ha) known st (.inr (by decide))
  have hst := startS_ok k hk
  have i1 := fun h => inForce_none (k := k) (day := day) (known := known) h
  obtain ⟨g1, g2⟩ := run_noneA k known st (by omega)
  have g3 := fun h => vrun_good (k := k) (l := st) h
  have hle := vrun_len2 k st
  generalize runR k [] known st = r at *
  generalize vrunR k st = v at *
  generalize inForceR k [] day known = f at *
  obtain ⟨⟨cs, ss⟩, e⟩ := r
  obtain ⟨ws, e2⟩ := v
  obtain ⟨⟨now, app⟩, e3⟩ := f
  dsimp only at g1 g2 hin hrun i1 hle
  subst g1
  (repeat (first | refine XK.n ?_ | refine XK.a ?_ | refine XK.b ?_))
  have hqt : p.tmod k.parties = q := by rw [Int.tmod_eq_emod_of_nonneg hp.1, hq]
  refine XK.weak (st' := ST.of [(1, ltsV l), (3, .c (.int .i64 day)), (4, .c (.int .i64 known)), (5, intsV st), (6, .ptr 6 0), (13, .c (.bool true)), (14, .c (.int .i64 q))] [(6, .cells 27 (kC k))] 1000 156 (fun _ => false)) (Weak.of hN rfl rfl rfl (by rw [← hqt]; (repeat' (first | exact rfl | exact AvIs.refl _ | exact trivial | exact fun _ _ => rfl | exact fun _ _ => ⟨rfl, AvIs.refl _⟩ | refine ⟨?_, ?_⟩))) frI) ?_
  clear hqt
  (repeat (first | refine XK.n ?_ | refine XK.a ?_ | refine XK.b ?_)); refine XK.drawn hm ?_; refine XD.goA hT rfl rfl rfl rfl ?_
  refine XD.callKA hE rfl rfl rfl rfl trivial rfl rfl (w1) ?_
  refine XD.goA hT rfl rfl rfl rfl ?_
  refine XD.callKA hE rfl rfl rfl rfl trivial rfl rfl (w2) ?_
  refine XD.goA hT rfl rfl rfl rfl ?_
  refine XD.callKA hE rfl rfl rfl rfl trivial rfl rfl (hag) ?_
  refine XD.goA hT rfl rfl rfl rfl ?_; refine XD.fin (by kernel_rfl) ?_; (repeat (first | refine XK.n ?_ | refine XK.a ?_ | refine XK.b ?_))
  (repeat (first | refine XK.n ?_ | refine XK.a ?_ | refine XK.b ?_))
  (repeat (first | refine XK.n ?_ | refine XK.a ?_ | refine XK.b ?_)); refine XK.region ?_; refine XL.g ?_
  refine XL.callKA hE rfl rfl rfl rfl trivial rfl rfl (hin) ?_
  refine XL.g ?_; refine XL.fin ?_; (repeat (first | refine XK.n ?_ | refine XK.a ?_ | refine XK.b ?_))
  (repeat (first | refine XK.n ?_ | refine XK.a ?_ | refine XK.b ?_)); refine XK.region ?_; refine XL.g ?_
  refine XL.callKA hE rfl rfl rfl rfl trivial rfl rfl (hrun) ?_
  refine XL.g ?_; refine XL.fin ?_; (repeat (first | refine XK.n ?_ | refine XK.a ?_ | refine XK.b ?_))
  (repeat (first | refine XK.n ?_ | refine XK.a ?_ | refine XK.b ?_)); refine XK.cond rfl (fun h2 => ?_) (fun h2 => ?_)
  · (repeat (first | refine XK.n ?_ | refine XK.a ?_ | refine XK.b ?_))
    (first | refine XK.o ?_ | refine XK.p ?_)
    rfl
  simp only [Bool.or_eq_false_iff, bne_eq_false_iff_eq] at h2
  obtain ⟨h3, h4⟩ := h2
  subst h3
  subst h4
  have i2 := i1 rfl
  obtain ⟨g4, g5, g6⟩ := g3 rfl
  have g2 := g2 rfl
  subst g2
  injection i2 with i2 _
  injection i2 with i2 i3
  have i2 := i2.symm
  subst i2
  subst i3
  clear i1 g3
  dsimp only at g5 g6
  (repeat (first | refine XK.n ?_ | refine XK.a ?_ | refine XK.b ?_)); refine XK.cond rfl (fun h5 => ?_) (fun h5 => ?_)
  · exfalso
    simp only [bne_iff_ne] at h5
    omega
  clear h5
  (repeat (first | refine XK.n ?_ | refine XK.a ?_ | refine XK.b ?_))
  have h0s : startS k = runE k st 0 := rfl
  rw [h0s] at hst
  (repeat (first | refine XK.n ?_ | refine XK.a ?_ | refine XK.b ?_)); refine XK.region ?_; refine XL.g ?_
  refine XL.callKA hE rfl rfl rfl rfl trivial rfl rfl (hst) ?_
  refine XL.g ?_; refine XL.fin ?_; (repeat (first | refine XK.n ?_ | refine XK.a ?_ | refine XK.b ?_))
  (repeat (first | refine XK.n ?_ | refine XK.a ?_ | refine XK.b ?_))
  have g40 : (runE k st 0).2 = 0 := g4 0 (Nat.zero_le _)
  refine XK.loop (ι := Nat) (fun i => ST.of [(5, intsV st), (6, .ptr 6 0), (13, .c (.bool true)), (15, amsV []), (16, .ptr 1172 0), (17, intsV []), (20, stsV ss), (22, .ptr 1802 0), (23, .c (.int .i64 0)), (24, .c (.int .i64 i))] [(6, .cells 27 (kC k)), (1172, .cells 27 (kC k)), (1802, .cells 45 (stC (runE k st i).1))] 3000 156 (fun _ => false))
    (fun i => i ≤ st.length) (fun i => st.length - i) 0 (Nat.zero_le _) (Weak.of hN rfl rfl rfl frV frI) fun i hi => ?_
  have hz := g4 i hi
  (repeat (first | refine XK.n ?_ | refine XK.a ?_ | refine XK.b ?_)); refine XK.cond rfl (fun hlt => ?_) (fun hlt => ?_) <;> (try simp at hlt)
  · have hz2 := g4 (i + 1) (by omega)
    have f1 : ss.getD (i : Int).toNat default = (runE k st i).1 := g6 i (by omega)
    have f2 : st.getD (i : Int).toNat default = st.getD i default := rfl
    have hn : runE k st (i + 1) = stepS k (runE k st i).1 (st.getD i default) := by show (if _ then _ else _) = _; rw [if_pos hz]
    have h2s := stepS_ok k hk (runE k st i).1 (st.getD i default)
    rw [← hn] at h2s
    generalize hr2 : runE k st (i + 1) = r2 at *
    have c3 := sameS_ok (runE k st i).1 (runE k st i).1
    rw [sameS_self] at c3
    generalize runE k st i = r at *
    have hic : i < ss.length := by omega
    (repeat (first | refine XK.n ?_ | refine XK.a ?_ | refine XK.b ?_)); refine XK.drawn hm ?_; refine XD.goA hT rfl rfl rfl rfl ?_
    rw [f1]
    refine XD.callKG hE rfl rfl rfl rfl rfl rfl rfl (by first | (simp [AllP, impG]; done) | (simp only [AllP, impG]; grind)) rfl rfl (fun hgd => ⟨c3, (by (repeat' (first | exact rfl | exact AvIs.refl _ | exact trivial | (intro i hi; rfl) | exact fun _ _ => ⟨rfl, AvIs.refl _⟩ | (intro i hi; rcases i with _ | _ | _ | _ | _ | _ | _ | i <;> first | rfl | exact absurd hi (by simp; done) | (simp at hi; omega)) | refine ⟨?_, ?_⟩)))⟩) rfl ?_
    refine XD.goA hT rfl rfl rfl rfl ?_; refine XD.fin (by kernel_rfl) ?_; (repeat (first | refine XK.n ?_ | refine XK.a ?_ | refine XK.b ?_))
    (repeat (first | refine XK.n ?_ | refine XK.a ?_ | refine XK.b ?_)); refine XK.cond rfl (fun h6 => ?_) (fun h6 => ?_)
    · exact absurd h6 (by simp)
    clear h6
    (repeat (first | refine XK.n ?_ | refine XK.a ?_ | refine XK.b ?_))
    (repeat (first | refine XK.n ?_ | refine XK.a ?_ | refine XK.b ?_)); refine XK.drawn hm ?_; refine XD.goA hT rfl rfl rfl rfl ?_
    rw [f2]
    refine XD.callKA hE rfl rfl rfl rfl trivial rfl rfl (h2s) ?_
    refine XD.goA hT rfl rfl rfl rfl ?_; refine XD.fin (by kernel_rfl) ?_; (repeat (first | refine XK.n ?_ | refine XK.a ?_ | refine XK.b ?_))
    (repeat (first | refine XK.n ?_ | refine XK.a ?_ | refine XK.b ?_))
    refine XK.inv ⟨i + 1, hlt, ?_, by omega⟩
    rw [hr2]
    exact (Weak.of hN rfl rfl rfl frV frI)
  · have hie : i = st.length := by omega
    subst hie
    have hss : ((ss.length : Int) - 1).toNat = st.length := by omega
    have f1 : ss.getD ((ss.length : Int) - 1).toNat default = (runE k st st.length).1 := by rw [hss]; exact g6 _ (Nat.le_refl _)
    have c3 := sameS_ok (runE k st st.length).1 (runE k st st.length).1
    rw [sameS_self] at c3
    generalize runE k st st.length = r at *
    have hic : st.length < ss.length := by omega
    (repeat (first | refine XK.n ?_ | refine XK.a ?_ | refine XK.b ?_)); refine XK.drawn hm ?_; refine XD.goA hT rfl rfl rfl rfl ?_
    refine XD.callKG hE rfl rfl rfl rfl rfl rfl rfl (by first | (simp [AllP, impG]; done) | (simp only [AllP, impG]; grind)) rfl rfl (fun hgd => ⟨c4, (by (repeat' (first | exact rfl | exact AvIs.refl _ | exact trivial | (intro i hi; rfl) | exact fun _ _ => ⟨rfl, AvIs.refl _⟩ | (intro i hi; rcases i with _ | _ | _ | _ | _ | _ | _ | i <;> first | rfl | exact absurd hi (by simp; done) | (simp at hi; omega)) | refine ⟨?_, ?_⟩)))⟩) rfl ?_
    refine XD.goA hT rfl rfl rfl rfl ?_
    rw [f1]
    refine XD.callKG hE rfl rfl rfl rfl rfl rfl rfl (by first | (simp [AllP, impG]; done) | (simp only [AllP, impG]; grind)) rfl rfl (fun hgd => ⟨c3, (by (repeat' (first | exact rfl | exact AvIs.refl _ | exact trivial | (intro i hi; rfl) | exact fun _ _ => ⟨rfl, AvIs.refl _⟩ | (intro i hi; rcases i with _ | _ | _ | _ | _ | _ | _ | i <;> first | rfl | exact absurd hi (by simp; done) | (simp at hi; omega)) | refine ⟨?_, ?_⟩)))⟩) rfl ?_
    refine XD.goA hT rfl rfl rfl rfl ?_; refine XD.fin (by kernel_rfl) ?_; (repeat (first | refine XK.n ?_ | refine XK.a ?_ | refine XK.b ?_))
    (first | refine XK.o ?_ | refine XK.p ?_)
    rfl
end
end Go.Proofs.YtlcfoelfcnhenaaGreatDoor
