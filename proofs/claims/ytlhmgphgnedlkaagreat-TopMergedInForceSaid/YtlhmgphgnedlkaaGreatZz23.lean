import Derived.Test.YtlhmgphgnedlkaaGreatZz13
import Derived.Test.YtlhmgphgnedlkaaGreatZz21
import Derived.Test.YtlhmgphgnedlkaaGreatZz22
set_option linter.unusedSimpArgs false
set_option linter.unusedVariables false
section
/- Contracts: package merge: sameClause, added, applied. -/
namespace Go.Proofs.YtlhmgphgnedlkaaGreat
open Go.Eng
set_option maxRecDepth 10000
def ptsV (l : List Pt) : AV := rowL ptC 19 l
theorem msame_ok (a b : Cl) (hs : a.start.length ≤ 1000000) : Does Tryz.prog 90 [clV a, clV b] (.c (.bool (clB a b))) := by
  have c1 := eqCnds_ok a.start b.start hs
  refine Does.mk (fun _ => false) TT_ok Tryz.func90 rfl (by kernel_rfl) Tryz.ntmps90 rfl rfl fun E hT hE hN hR => ?_
  have hm := mixO hE
  (repeat (first | refine XK.n ?_ | refine XK.a ?_ | refine XK.b ?_)); refine XK.region ?_; refine XL.g ?_
  refine XL.callGA hE rfl rfl rfl rfl rfl rfl rfl rfl (c1) rfl ?_
  refine XL.g ?_; refine XL.fin ?_; (repeat (first | refine XK.n ?_ | refine XK.a ?_ | refine XK.b ?_))
  (first | refine XK.out rfl rfl rfl ?_ | refine XK.outN rfl rfl rfl ?_)
  refine cB ?_
  unfold clB
  generalize listB cndB a.start b.start = x
  generalize (a.kind == b.kind) = y1
  generalize (a.role == b.role) = y2
  generalize (a.act == b.act) = y3
  generalize (a.need == b.need) = y4
  cases x <;> cases y1 <;> cases y2 <;> cases y3 <;> cases y4 <;> simp [Bool.and_assoc]
theorem meqCls_ok (l m : List Cl) (hl : l.length ≤ 1000000) (hs : ∀ i, i < l.length → (l.getD i default).start.length ≤ 1000000) : Does Tryz.prog 89 [clsV l, clsV m, .fn (.func 90) [] []] (.c (.bool (listB clB l m))) := by
  refine Does.mk (fun _ => false) TT_ok Tryz.func89 rfl (by kernel_rfl) Tryz.ntmps89 rfl rfl fun E hT hE hN hR => ?_
  have hm := mixO hE
  (repeat (first | refine XK.n ?_ | refine XK.a ?_ | refine XK.b ?_)); refine XK.cond rfl (fun h1 => ?_) (fun h1 => ?_) <;> (try simp at h1)
  · (repeat (first | refine XK.n ?_ | refine XK.a ?_ | refine XK.b ?_))
    (first | refine XK.out rfl rfl rfl ?_ | refine XK.outN rfl rfl rfl ?_)
    exact cB (listB_no (.inl (by omega))).symm
  (repeat (first | refine XK.n ?_ | refine XK.a ?_ | refine XK.b ?_))
  refine XK.loop (ι := Nat) (fun i => ST.of [(0, clsV l), (1, clsV m), (2, .fn (.func 90) [] []), (15, clsV l), (16, .c (.int .i64 l.length)), (17, .c (.int .i64 i))] [] 1000 32 (fun _ => false))
    (fun i => i ≤ l.length ∧ ∀ j, j < i → clB (l.getD j default) (m.getD j default) = true) (fun i => l.length - i) 0 ⟨Nat.zero_le _, fun j hj => absurd hj (Nat.not_lt_zero _)⟩ (Weak.of hN rfl rfl rfl frI frI) fun i hi => ?_
  obtain ⟨hi, hj⟩ := hi
  (repeat (first | refine XK.n ?_ | refine XK.a ?_ | refine XK.b ?_)); refine XK.cond rfl (fun hlt => ?_) (fun hlt => ?_) <;> (try simp at hlt)
  · have fx : l.getD (i : Int).toNat default = l.getD i default := rfl
    have fy : m.getD (i : Int).toNat default = m.getD i default := rfl
    (repeat (first | refine XK.n ?_ | refine XK.a ?_ | refine XK.b ?_))
    rw [fx, fy]
    have sc := msame_ok (l.getD i default) (m.getD i default) (hs i hlt)
    (repeat (first | refine XK.n ?_ | refine XK.a ?_ | refine XK.b ?_)); refine XK.region ?_; refine XL.g ?_
    refine XL.callLA hE rfl rfl rfl rfl trivial rfl (sc) rfl ?_
    refine XL.g ?_; refine XL.fin ?_; (repeat (first | refine XK.n ?_ | refine XK.a ?_ | refine XK.b ?_))
    (repeat (first | refine XK.n ?_ | refine XK.a ?_ | refine XK.b ?_)); refine XK.cond rfl (fun h2 => ?_) (fun h2 => ?_)
    · (repeat (first | refine XK.n ?_ | refine XK.a ?_ | refine XK.b ?_))
      (first | refine XK.out rfl rfl rfl ?_ | refine XK.outN rfl rfl rfl ?_)
      refine cB (listB_no (.inr ⟨i, hlt, ?_⟩)).symm
      simpa using h2
    · (repeat (first | refine XK.n ?_ | refine XK.a ?_ | refine XK.b ?_))
      refine XK.inv ⟨i + 1, ⟨hlt, fun j hj' => ?_⟩, (Weak.of hN rfl rfl rfl frI frI), by omega⟩
      by_cases e : j = i
      · subst e; simpa using h2
      · exact hj j (by omega)
  · (repeat (first | refine XK.n ?_ | refine XK.a ?_ | refine XK.b ?_))
    (first | refine XK.out rfl rfl rfl ?_ | refine XK.outN rfl rfl rfl ?_)
    exact cB (listB_at.2 ⟨by omega, fun j hj' => hj j (by omega)⟩).symm
theorem added_ok (l : List Pt) (hl : l.length ≤ 1000000) : Does Tryz.prog 29 [ptsV l] (.c (.int .i64 (addsN l l.length))) := by
  refine Does.mk (fun _ => false) TT_ok Tryz.func29 rfl (by kernel_rfl) Tryz.ntmps29 rfl rfl fun E hT hE hN hR => ?_
  have hm := mixO hE
  (repeat (first | refine XK.n ?_ | refine XK.a ?_ | refine XK.b ?_))
  refine XK.loop (ι := Nat) (fun i => ST.of [(3, .c (.int .i64 (addsN l i))), (6, ptsV l), (7, .c (.int .i64 l.length)), (8, .c (.int .i64 i))] [] 1000 19 (fun _ => false))
    (fun i => i ≤ l.length) (fun i => l.length - i) 0 (Nat.zero_le _) (Weak.of hN rfl rfl rfl frI frI) fun i hi => ?_
  have hle := addsN_le l i
  (repeat (first | refine XK.n ?_ | refine XK.a ?_ | refine XK.b ?_)); refine XK.cond rfl (fun hlt => ?_) (fun hlt => ?_) <;> (try simp at hlt)
  · have fx : l.getD (i : Int).toNat default = l.getD i default := rfl
    have hn := addsN_succ (l := l) hlt
    (repeat (first | refine XK.n ?_ | refine XK.a ?_ | refine XK.b ?_))
    rw [fx]
    generalize l.getD i default = p at *
    (repeat (first | refine XK.n ?_ | refine XK.a ?_ | refine XK.b ?_)); refine XK.cond rfl (fun h1 => ?_) (fun h1 => ?_) <;> (try simp at h1)
    · rw [if_pos h1] at hn
      (repeat (first | refine XK.n ?_ | refine XK.a ?_ | refine XK.b ?_))
      refine XK.inv ⟨i + 1, hlt, ?_, by omega⟩
      rw [hn]
      exact (Weak.of hN rfl rfl rfl frI frI)
    · rw [if_neg h1] at hn
      (repeat (first | refine XK.n ?_ | refine XK.a ?_ | refine XK.b ?_))
      refine XK.inv ⟨i + 1, hlt, ?_, by omega⟩
      rw [hn]
      exact (Weak.of hN rfl rfl rfl frI frI)
  · have hie : i = l.length := by omega
    subst hie
    (repeat (first | refine XK.n ?_ | refine XK.a ?_ | refine XK.b ?_))
    (first | refine XK.out rfl rfl rfl ?_ | refine XK.outN rfl rfl rfl ?_)
    rfl
def ptOk (p : Pt) : Prop := ptW p ∧ p.clauses.length ≤ 1000000 ∧ p.new.start.length ≤ 1000000
def ptsOk (l : List Pt) : Prop := ∀ p ∈ l, ptOk p
theorem allTo_zero {k : K} {l : List Pt} : ∀ {i : Nat}, (allTo k l i).2 ≠ 0 → (allTo k l i).1 = zeroK
  | 0, h => absurd rfl h
  | i + 1, h => by
    rw [allTo] at h ⊢
    split at h
    · rename_i h1
      rw [if_pos h1]
      exact allTo_zero h1
    · rename_i h1
      rw [if_neg h1]
      rcases applyR_cases (allTo k l i).1 (l.getD i default) with ⟨_, e⟩ | ⟨e, _⟩
      · exact e
      · exact absurd e h
set_option maxHeartbeats 1000000 in
theorem appliedRaw_ok (k : K) (hk : kW k) (l : List Pt) (hl : ptsOk l) (hn : l.length ≤ 1000000) : Does Tryz.prog 44 [kV k, ptsV l] (.tup [kE (allTo k l l.length), .c (.int .i64 (allTo k l l.length).2)]) := by
  refine Does.mk (fun _ => false) TT_ok Tryz.func44 rfl (by kernel_rfl) Tryz.ntmps44 rfl rfl fun E hT hE hN hR => ?_
  have hm := mixO hE
  (repeat (first | refine XK.n ?_ | refine XK.a ?_ | refine XK.b ?_))
  refine XK.loop (ι := Nat) (fun i => ST.of [(2, .ptr 2 0), (4, .ptr 4 0), (10, ptsV l), (11, .c (.int .i64 l.length)), (12, .c (.int .i64 i))] [(2, .cells 27 (kC (allTo k l i).1)), (4, .cells 27 [.c (.int .i64 0), .c (.slice none 0 0), .c (.slice none 0 0), .c (.slice none 0 0), .c (.slice none 0 0), .c (.int .i64 0), .c (.slice none 0 0)])] 1000 29 (fun _ => false))
    (fun i => i ≤ l.length ∧ (allTo k l i).2 = 0) (fun i => l.length - i) 0 ⟨Nat.zero_le _, rfl⟩ (Weak.of hN rfl rfl rfl frI frI) fun i hi => ?_
  obtain ⟨hi, h0⟩ := hi
  (repeat (first | refine XK.n ?_ | refine XK.a ?_ | refine XK.b ?_)); refine XK.cond rfl (fun hlt => ?_) (fun hlt => ?_) <;> (try simp at hlt)
  · have fx : l.getD (i : Int).toNat default = l.getD i default := rfl
    obtain ⟨p1, p2, p3⟩ := hl _ (getD_memW hlt)
    have hkw := allTo_W hk (fun p hp => (hl p hp).1) (l := l) (i := i) hi
    have ca := apply_ok (allTo k l i).1 hkw (l.getD i default) p1 p2 p3
    have hs := allTo_step h0
    have hst := fun (h : (allTo k l (i + 1)).2 ≠ 0) => allTo_stop h l.length (by omega)
    have hz := fun (h : (allTo k l (i + 1)).2 ≠ 0) => allTo_zero h
    rw [← hs] at ca
    generalize hr : allTo k l (i + 1) = r at *
    generalize allTo k l i = q at *
    generalize l.getD i default = p at *
    (repeat (first | refine XK.n ?_ | refine XK.a ?_ | refine XK.b ?_))
    rw [fx]
    (repeat (first | refine XK.n ?_ | refine XK.a ?_ | refine XK.b ?_)); refine XK.region ?_; refine XL.g ?_
    refine XL.callKA hE rfl rfl rfl rfl trivial rfl rfl (ca) ?_
    refine XL.g ?_; refine XL.fin ?_; (repeat (first | refine XK.n ?_ | refine XK.a ?_ | refine XK.b ?_))
    (repeat (first | refine XK.n ?_ | refine XK.a ?_ | refine XK.b ?_)); refine XK.cond rfl (fun h1 => ?_) (fun h1 => ?_) <;> (try simp at h1)
    · rw [hst h1, show kE r = zKV from if_neg h1]
      (repeat (first | refine XK.n ?_ | refine XK.a ?_ | refine XK.b ?_))
      (first | refine XK.out rfl rfl rfl ?_ | refine XK.outN rfl rfl rfl ?_)
      rfl
    · (repeat (first | refine XK.n ?_ | refine XK.a ?_ | refine XK.b ?_))
      refine XK.inv ⟨i + 1, ⟨hlt, by rw [hr]; exact h1⟩, ?_, by omega⟩
      rw [hr]
      exact (Weak.of hN rfl rfl rfl frI frI)
  · have hie : i = l.length := by omega
    subst hie
    rw [show kE (allTo k l l.length) = kV (allTo k l l.length).1 from if_pos h0, h0]
    (repeat (first | refine XK.n ?_ | refine XK.a ?_ | refine XK.b ?_))
    (first | refine XK.out rfl rfl rfl ?_ | refine XK.outN rfl rfl rfl ?_)
    rfl
theorem applied_ok (k : K) (hk : kW k) (l : List Pt) (hl : ptsOk l) (hn : l.length ≤ 1000000) : Does Tryz.prog 44 [kV k, ptsV l] (.tup [kV (allTo k l l.length).1, .c (.int .i64 (allTo k l l.length).2)]) :=
  (appliedRaw_ok k hk l hl hn).weaken (AvS.tupS ⟨kE_is fun h => allTo_zero h, AvS.refl _, trivial⟩)
end Go.Proofs.YtlhmgphgnedlkaaGreat
end
section
/- Contracts: package version: copied. -/
namespace Go.Proofs.YtlhmgphgnedlkaaGreat
open Go.Eng
set_option maxRecDepth 10000
theorem setRow_same {cs : List Cl} {i off : Nat} {c : List AV} (hc : setL (clC (cs.getD i default)) off c = clC (cs.getD i default)) : ∀ j, clC (cs.getD j default) = setRowF (fun i => clC (cs.getD i default)) i off c j := by
  intro j
  unfold setRowF
  by_cases h : j = i
  · subst h; rw [show Nat.beq j j = true by simp]; exact hc.symm
  · rw [beq_false h]; rfl
theorem copied_ok (k : K) (h1 : (kValid k).1 = 0) (hk : kW k) : Does Tryz.prog 51 [kV k] (kV k) := by
  have hF := (show kOk k from ⟨hk, h1⟩).facts
  have hnc := hF.nc
  have hnh := hF.nh
  have hna := hF.na
  have hnu := units_len h1
  have hno := off_len hF
  refine Does.mk (fun _ => false) TT_ok Tryz.func51 rfl (by kernel_rfl) Tryz.ntmps51 rfl rfl fun E hT hE hN hR => ?_
  have hm := mixO hE
  (repeat (first | refine XK.n ?_ | refine XK.a ?_ | refine XK.b ?_)); refine XK.drawn hm ?_; refine XD.goA hT rfl rfl rfl rfl ?_
  refine XD.callKA hE rfl rfl rfl rfl trivial rfl rfl (cln_ints k.holders (by omega)) ?_
  refine XD.goA hT rfl rfl rfl rfl ?_
  refine XD.callKA hE rfl rfl rfl rfl trivial rfl rfl (cln_units k.units (by omega)) ?_
  refine XD.goA hT rfl rfl rfl rfl ?_; refine XD.fin (by kernel_rfl) ?_; (repeat (first | refine XK.n ?_ | refine XK.a ?_ | refine XK.b ?_))
  (repeat (first | refine XK.n ?_ | refine XK.a ?_ | refine XK.b ?_)); refine XK.drawn hm ?_; refine XD.goA hT rfl rfl rfl rfl ?_
  refine XD.callKA hE rfl rfl rfl rfl trivial rfl rfl (cln_acts k.acts (by omega)) ?_
  refine XD.goA hT rfl rfl rfl rfl ?_
  refine XD.callKA hE rfl rfl rfl rfl trivial rfl rfl (cln_ints k.off (by omega)) ?_
  refine XD.goA hT rfl rfl rfl rfl ?_; refine XD.fin (by kernel_rfl) ?_; (repeat (first | refine XK.n ?_ | refine XK.a ?_ | refine XK.b ?_))
  by_cases h0 : k.clauses.length = 0
  · (repeat (first | refine XK.n ?_ | refine XK.a ?_ | refine XK.b ?_)); refine XK.region ?_; refine XL.g ?_
    refine XL.callKA hE rfl rfl rfl rfl trivial rfl rfl (cln_cls k.clauses (by omega)) ?_
    refine XL.g ?_; refine XL.fin ?_; (repeat (first | refine XK.n ?_ | refine XK.a ?_ | refine XK.b ?_))
    refine XK.loop (ι := Nat) (fun i => ST.of [(1, .ptr 1 0), (2, .ptr 2 0), (26, .c (.int .i64 k.clauses.length)), (27, .c (.int .i64 0))] [(1, .cells 27 (kC k)), (2, .cells 27 [.c (.int .i64 0), .c (.slice none 0 0), .c (.slice none 0 0), .c (.slice none 0 0), .c (.slice none 0 0), .c (.int .i64 0), .c (.slice none 0 0)])] 1000 44 (fun _ => false))
      (fun i => i = 0) (fun i => 0) 0 rfl (Weak.of hN rfl rfl rfl frI frI) fun i hi => ?_
    (repeat (first | refine XK.n ?_ | refine XK.a ?_ | refine XK.b ?_)); refine XK.cond rfl (fun hlt => ?_) (fun hlt => ?_) <;> (try simp at hlt)
    · omega
    · (repeat (first | refine XK.n ?_ | refine XK.a ?_ | refine XK.b ?_))
      (first | refine XK.out rfl rfl rfl ?_ | refine XK.outN rfl rfl rfl ?_)
      rfl
  · (repeat (first | refine XK.n ?_ | refine XK.a ?_ | refine XK.b ?_)); refine XK.region ?_; refine XL.g ?_
    refine XL.callMA [700] hE rfl rfl rfl rfl trivial (clnM_cls k.clauses (by omega) (by omega)) rfl rfl rfl rfl rfl ?_
    refine XL.g ?_; refine XL.fin ?_; (repeat (first | refine XK.n ?_ | refine XK.a ?_ | refine XK.b ?_))
    refine XK.loop (ι := Nat) (fun i => ST.of [(1, .ptr 1 0), (2, .ptr 2 0), (26, .c (.int .i64 k.clauses.length)), (27, .c (.int .i64 i))]
      [(1, .cells 27 [.c (.int .i64 k.parties), intsV k.holders, unitsV k.units, actsV k.acts, .vec 700 0, .c (.int .i64 k.days), intsV k.off]), (2, .cells 27 [.c (.int .i64 0), .c (.slice none 0 0), .c (.slice none 0 0), .c (.slice none 0 0), .c (.slice none 0 0), .c (.int .i64 0), .c (.slice none 0 0)]), (700, clsO 0 k.clauses)] 1000 44 (fun _ => false))
      (fun i => i ≤ k.clauses.length) (fun i => k.clauses.length - i) 0 (Nat.zero_le _) (Weak.of hN rfl rfl rfl frI frI) fun i hi => ?_
    unfold clsO
    (repeat (first | refine XK.n ?_ | refine XK.a ?_ | refine XK.b ?_)); refine XK.cond rfl (fun hlt => ?_) (fun hlt => ?_) <;> (try simp at hlt)
    · have fx : k.clauses.getD (i : Int).toNat default = k.clauses.getD i default := rfl
      have hst : (k.clauses.getD i default).start.length ≤ 8 := (hF.clB hlt).2.2.2.1
      have cc := cln_cnds (k.clauses.getD i default).start (by omega)
      (repeat (first | refine XK.n ?_ | refine XK.a ?_ | refine XK.b ?_))
      (repeat (first | refine XK.n ?_ | refine XK.a ?_ | refine XK.b ?_)); refine XK.drawn hm ?_; refine XD.goA hT rfl rfl rfl rfl ?_
      rw [fx]
      refine XD.callKA hE rfl rfl rfl rfl trivial rfl rfl (cc) ?_
      refine XD.goA hT rfl rfl rfl rfl ?_; refine XD.fin (by kernel_rfl) ?_; (repeat (first | refine XK.n ?_ | refine XK.a ?_ | refine XK.b ?_))
      refine XK.inv ⟨i + 1, hlt, Weak.of hN rfl rfl rfl (by (repeat' (first | exact rfl | exact AvIs.refl _ | exact trivial | exact fun _ _ => rfl | exact fun _ _ => ⟨rfl, AvIs.refl _⟩ | exact cI (by omega) | refine ⟨?_, ?_⟩))) ⟨frI, frI, ⟨rfl, rfl, rfl⟩, rfl, fun j hj => setRow_same rfl j⟩, by omega⟩
    · (repeat (first | refine XK.n ?_ | refine XK.a ?_ | refine XK.b ?_))
      refine XK.weak (Weak.frozen (k := 700) hN rfl rfl) ?_
      (repeat (first | refine XK.n ?_ | refine XK.a ?_ | refine XK.b ?_))
      (first | refine XK.out rfl rfl rfl ?_ | refine XK.outN rfl rfl rfl ?_)
      rfl
end Go.Proofs.YtlhmgphgnedlkaaGreat
end
section
/- Contracts: package merge: renumbered, copied. -/
namespace Go.Proofs.YtlhmgphgnedlkaaGreat
open Go.Eng
set_option maxRecDepth 10000
def irO (l : List Int) : Ob := .vec 3 1 0 l.length (fun i => iC (l.getD i default))
theorem clo_ints (l : List Int) (hl : l.length ≤ 1000000) : DoesM Tryz.prog 37 [intsV l] [] (.vec 0 0) [irO l] := by
  refine DoesM.mk (fun d => Nat.beq d 5) 100 TT_ok Tryz.func37 rfl (by kernel_rfl) Tryz.ntmps37 rfl rfl rfl fun E hT hE hN hR => ?_
  have hm := mixO hE
  by_cases h0 : l.length = 0
  · obtain rfl : l = [] := List.length_eq_zero_iff.1 h0
    refine XK.rsNil 0 rfl fun A cap hc => ?_
    (repeat (first | refine XK.n ?_ | refine XK.a ?_ | refine XK.b ?_)); refine XK.cond rfl (fun h1 => ?_) (fun h1 => ?_)
    · (repeat (first | refine XK.n ?_ | refine XK.a ?_ | refine XK.b ?_))
      refine XK.weak (Weak.trans (Weak.ghost (j := 2) (k := 99) (e := 3) (sz := 1) (f := fun _ => []) rfl rfl) (Weak.of (L := [(2, .vec 99 0)]) (O := [(99, irO [])]) (nx := 1000) (nt := 8) (md := fun _ => false) hN rfl rfl rfl frI (by (repeat' (first | exact rfl | exact AvIs.refl _ | exact trivial | exact fun _ _ => rfl | exact fun _ _ => ⟨rfl, AvIs.refl _⟩ | exact fun _ hi => absurd hi (Nat.not_lt_zero _) | (intro i hi; cases Nat.lt_one_iff.1 hi; rfl) | (intro j hj; by_cases hji : j = (0); (· subst hji; simp [setRowF, setL, Rd.upOut, Rd.upCnt]; done); (· simp [setRowF, beq_false hji, Rd.upOut, Rd.upCnt, hji, lt_succ_ne hji]; done)) | refine ⟨?_, ?_⟩))))) ?_
      (first | refine XK.outR [99] hN rfl rfl rfl ?_ rfl rfl ?_ | refine XK.outRN [99] hN rfl rfl rfl ?_ rfl rfl ?_)
      · (repeat' (first | exact rfl | exact AvIs.refl _ | exact trivial | exact fun _ _ => rfl | exact fun _ _ => ⟨rfl, AvIs.refl _⟩ | refine ⟨?_, ?_⟩))
      · (repeat' (first | exact rfl | exact AvIs.refl _ | exact trivial | exact fun _ _ => rfl | exact fun _ _ => ⟨rfl, AvIs.refl _⟩ | refine ⟨?_, ?_⟩))
    · refine XK.weak (Weak.rsNil 0 1 (fun i => iC (([] : List Int).getD i default)) hc rfl) ?_
      (repeat (first | refine XK.n ?_ | refine XK.a ?_ | refine XK.b ?_))
      refine XK.weak (Weak.trans (Weak.stamp (k := 121) (t := 0) hN rfl rfl) (Weak.of (L := [(2, .vec 121 0)]) (O := [(121, irO [])]) (nx := 1000) (nt := 8) (md := fun _ => false) hN rfl rfl rfl frI ⟨⟨rfl, rfl, rfl⟩, rfl, fun j hj => absurd hj (Nat.not_lt_zero _)⟩)) ?_
      (first | refine XK.outR [121] hN rfl rfl rfl ?_ rfl rfl ?_ | refine XK.outRN [121] hN rfl rfl rfl ?_ rfl rfl ?_)
      · (repeat' (first | exact rfl | exact AvIs.refl _ | exact trivial | exact fun _ _ => rfl | exact fun _ _ => ⟨rfl, AvIs.refl _⟩ | refine ⟨?_, ?_⟩))
      · (repeat' (first | exact rfl | exact AvIs.refl _ | exact trivial | exact fun _ _ => rfl | exact fun _ _ => ⟨rfl, AvIs.refl _⟩ | refine ⟨?_, ?_⟩))
  · (repeat (first | refine XK.n ?_ | refine XK.a ?_ | refine XK.b ?_)); refine XK.cond rfl (fun h1 => ?_) (fun h1 => ?_)
    · cases h1
    · (repeat (first | refine XK.n ?_ | refine XK.a ?_ | refine XK.b ?_))
      refine XK.weak (Weak.trans (Weak.stamp (k := 121) (t := 0) hN rfl rfl) (Weak.of (L := [(2, .vec 121 0)]) (O := [(121, irO l)]) (nx := 1000) (nt := 8) (md := fun _ => false) hN rfl rfl rfl frI ⟨⟨rfl, rfl, rfl⟩, Nat.zero_add _, fun j hj => by rcases j with _ | j <;> rfl⟩)) ?_
      (first | refine XK.outR [121] hN rfl rfl rfl ?_ rfl rfl ?_ | refine XK.outRN [121] hN rfl rfl rfl ?_ rfl rfl ?_)
      · (repeat' (first | exact rfl | exact AvIs.refl _ | exact trivial | exact fun _ _ => rfl | exact fun _ _ => ⟨rfl, AvIs.refl _⟩ | refine ⟨?_, ?_⟩))
      · (repeat' (first | exact rfl | exact AvIs.refl _ | exact trivial | exact fun _ _ => rfl | exact fun _ _ => ⟨rfl, AvIs.refl _⟩ | refine ⟨?_, ?_⟩))
def cndsO (l : List Cnd) : Ob := .vec 130 2 0 l.length (fun i => cndC (l.getD i default))
theorem clo_cnds (l : List Cnd) (hl : l.length ≤ 1000000) : DoesM Tryz.prog 59 [cndsV l] [] (.vec 0 0) [cndsO l] := by
  refine DoesM.mk (fun d => Nat.beq d 5) 100 TT_ok Tryz.func59 rfl (by kernel_rfl) Tryz.ntmps59 rfl rfl rfl fun E hT hE hN hR => ?_
  have hm := mixO hE
  by_cases h0 : l.length = 0
  · obtain rfl : l = [] := List.length_eq_zero_iff.1 h0
    refine XK.rsNil 0 rfl fun A cap hc => ?_
    (repeat (first | refine XK.n ?_ | refine XK.a ?_ | refine XK.b ?_)); refine XK.cond rfl (fun h1 => ?_) (fun h1 => ?_)
    · (repeat (first | refine XK.n ?_ | refine XK.a ?_ | refine XK.b ?_))
      refine XK.weak (Weak.trans (Weak.ghost (j := 2) (k := 99) (e := 130) (sz := 2) (f := fun _ => []) rfl rfl) (Weak.of (L := [(2, .vec 99 0)]) (O := [(99, cndsO [])]) (nx := 1000) (nt := 8) (md := fun _ => false) hN rfl rfl rfl frI (by (repeat' (first | exact rfl | exact AvIs.refl _ | exact trivial | exact fun _ _ => rfl | exact fun _ _ => ⟨rfl, AvIs.refl _⟩ | exact fun _ hi => absurd hi (Nat.not_lt_zero _) | (intro i hi; cases Nat.lt_one_iff.1 hi; rfl) | (intro j hj; by_cases hji : j = (0); (· subst hji; simp [setRowF, setL, Rd.upOut, Rd.upCnt]; done); (· simp [setRowF, beq_false hji, Rd.upOut, Rd.upCnt, hji, lt_succ_ne hji]; done)) | refine ⟨?_, ?_⟩))))) ?_
      (first | refine XK.outR [99] hN rfl rfl rfl ?_ rfl rfl ?_ | refine XK.outRN [99] hN rfl rfl rfl ?_ rfl rfl ?_)
      · (repeat' (first | exact rfl | exact AvIs.refl _ | exact trivial | exact fun _ _ => rfl | exact fun _ _ => ⟨rfl, AvIs.refl _⟩ | refine ⟨?_, ?_⟩))
      · (repeat' (first | exact rfl | exact AvIs.refl _ | exact trivial | exact fun _ _ => rfl | exact fun _ _ => ⟨rfl, AvIs.refl _⟩ | refine ⟨?_, ?_⟩))
    · refine XK.weak (Weak.rsNil 0 2 (fun i => cndC (([] : List Cnd).getD i default)) hc rfl) ?_
      (repeat (first | refine XK.n ?_ | refine XK.a ?_ | refine XK.b ?_))
      refine XK.weak (Weak.trans (Weak.stamp (k := 121) (t := 0) hN rfl rfl) (Weak.of (L := [(2, .vec 121 0)]) (O := [(121, cndsO [])]) (nx := 1000) (nt := 8) (md := fun _ => false) hN rfl rfl rfl frI ⟨⟨rfl, rfl, rfl⟩, rfl, fun j hj => absurd hj (Nat.not_lt_zero _)⟩)) ?_
      (first | refine XK.outR [121] hN rfl rfl rfl ?_ rfl rfl ?_ | refine XK.outRN [121] hN rfl rfl rfl ?_ rfl rfl ?_)
      · (repeat' (first | exact rfl | exact AvIs.refl _ | exact trivial | exact fun _ _ => rfl | exact fun _ _ => ⟨rfl, AvIs.refl _⟩ | refine ⟨?_, ?_⟩))
      · (repeat' (first | exact rfl | exact AvIs.refl _ | exact trivial | exact fun _ _ => rfl | exact fun _ _ => ⟨rfl, AvIs.refl _⟩ | refine ⟨?_, ?_⟩))
  · (repeat (first | refine XK.n ?_ | refine XK.a ?_ | refine XK.b ?_)); refine XK.cond rfl (fun h1 => ?_) (fun h1 => ?_)
    · cases h1
    · (repeat (first | refine XK.n ?_ | refine XK.a ?_ | refine XK.b ?_))
      refine XK.weak (Weak.trans (Weak.stamp (k := 121) (t := 0) hN rfl rfl) (Weak.of (L := [(2, .vec 121 0)]) (O := [(121, cndsO l)]) (nx := 1000) (nt := 8) (md := fun _ => false) hN rfl rfl rfl frI ⟨⟨rfl, rfl, rfl⟩, Nat.zero_add _, fun j hj => by rcases j with _ | j <;> rfl⟩)) ?_
      (first | refine XK.outR [121] hN rfl rfl rfl ?_ rfl rfl ?_ | refine XK.outRN [121] hN rfl rfl rfl ?_ rfl rfl ?_)
      · (repeat' (first | exact rfl | exact AvIs.refl _ | exact trivial | exact fun _ _ => rfl | exact fun _ _ => ⟨rfl, AvIs.refl _⟩ | refine ⟨?_, ?_⟩))
      · (repeat' (first | exact rfl | exact AvIs.refl _ | exact trivial | exact fun _ _ => rfl | exact fun _ _ => ⟨rfl, AvIs.refl _⟩ | refine ⟨?_, ?_⟩))
end Go.Proofs.YtlhmgphgnedlkaaGreat
end
section
/- Contracts: package merge: renumbered, copied. -/
namespace Go.Proofs.YtlhmgphgnedlkaaGreat
open Go.Eng
set_option maxRecDepth 10000
def ptR (p : Pt) (a b : AV) : List AV := [.c (.int .i64 p.kind), a, .c (.int .i64 p.new.kind), .c (.int .i64 p.new.role), .c (.int .i64 p.new.act), .c (.int .i64 p.new.need), b, .c (.int .i64 p.new.after), .c (.int .i64 p.new.grace), .c (.bool p.new.business), .c (.bool p.new.final), .c (.int .i64 p.new.pause), .c (.int .i64 p.new.resume), .c (.int .i64 p.new.value.1), .c (.int .i64 p.new.value.2), .c (.int .i64 p.new.unit), .c (.int .i64 p.new.to), .c (.bool p.new.waived), .c (.int .i64 p.days)]
def zP : List AV := [.c (.int .i64 0), .c (.slice none 0 0), .c (.int .i64 0), .c (.int .i64 0), .c (.int .i64 0), .c (.int .i64 0), .c (.slice none 0 0), .c (.int .i64 0), .c (.int .i64 0), .c (.bool false), .c (.bool false), .c (.int .i64 0), .c (.int .i64 0), .c (.int .i64 0), .c (.int .i64 0), .c (.int .i64 0), .c (.int .i64 0), .c (.bool false), .c (.int .i64 0)]
def rnI (l : List Int) (n d : Int) (i : Nat) : Nat → List AV := fun j => iC (if j < i then shI n d (l.getD j default) else l.getD j default)
def rnC (l : List Cnd) (n d : Int) (i : Nat) : Nat → List AV := fun j => cndC (if j < i then shC n d (l.getD j default) else l.getD j default)
theorem map_at {α β : Type} [Inhabited α] [Inhabited β] (f : α → β) {l : List α} {j : Nat} (h : j < l.length) : (l.map f).getD j default = f (l.getD j default) := by simp [List.getD, h]
def smI (x : Int) : Prop := -1000000000 ≤ x ∧ x ≤ 1000000000
set_option maxHeartbeats 1000000 in
theorem renum_ok (p : Pt) (n d : Int) (hc : p.clauses.length ≤ 1000000) (hs : p.new.start.length ≤ 1000000) (h1 : ∀ x ∈ p.clauses, smI x) (h2 : ∀ x ∈ p.new.start, smI x.clause) (hd : smI d) :
    Does Tryz.prog 31 [ptV p, .c (.int .i64 n), .c (.int .i64 d)] (ptV (renR p n d)) := by
  obtain ⟨d1, d2⟩ := hd
  refine Does.mk (fun _ => false) TT_ok Tryz.func31 rfl (by kernel_rfl) Tryz.ntmps31 rfl rfl fun E hT hE hN hR => ?_
  have hm := mixO hE
  (repeat (first | refine XK.n ?_ | refine XK.a ?_ | refine XK.b ?_))
  (repeat (first | refine XK.n ?_ | refine XK.a ?_ | refine XK.b ?_)); refine XK.region ?_; refine XL.g ?_
  refine XL.callMA [700] hE rfl rfl rfl rfl trivial (clo_ints p.clauses hc) rfl rfl rfl rfl rfl ?_
  refine XL.g ?_; refine XL.fin ?_; (repeat (first | refine XK.n ?_ | refine XK.a ?_ | refine XK.b ?_))
  (repeat (first | refine XK.n ?_ | refine XK.a ?_ | refine XK.b ?_))
  refine XK.loop (ι := Nat) (fun i => ST.of [(1, .c (.int .i64 n)), (2, .c (.int .i64 d)), (3, .ptr 3 0), (6, .ptr 6 0), (16, .vec 700 0), (17, .c (.int .i64 p.clauses.length)), (18, .c (.int .i64 i))] [(3, .cells 50 (ptR p (.vec 700 0) (cndsV p.new.start))), (6, .cells 50 zP), (700, .vec 3 1 0 p.clauses.length (rnI p.clauses n d i))] 1000 67 (fun _ => false))
    (fun i => i ≤ p.clauses.length) (fun i => p.clauses.length - i) 0 (Nat.zero_le _) (Weak.of hN rfl rfl rfl frI frI) fun i hi => ?_
  (repeat (first | refine XK.n ?_ | refine XK.a ?_ | refine XK.b ?_)); refine XK.cond rfl (fun hlt => ?_) (fun hlt => ?_) <;> (try simp at hlt)
  · have fx : (if (i : Int).toNat < i then shI n d (p.clauses.getD (i : Int).toNat default) else p.clauses.getD (i : Int).toNat default) = p.clauses.getD i default := if_neg (Nat.lt_irrefl _)
    obtain ⟨b1, b2⟩ := h1 _ (getD_memW hlt)
    have hr : ∀ z, z = shI n d (p.clauses.getD i default) → ∀ j, rnI p.clauses n d (i + 1) j = setRowF (rnI p.clauses n d i) i 0 [.c (.int .i64 z)] j := by
      intro z hz j
      unfold setRowF rnI
      by_cases e : j = i
      · subst e
        rw [show Nat.beq j j = true by simp, cond_true, if_pos (by omega), hz]
        rfl
      · rw [beq_false e, cond_false]
        by_cases e2 : j < i
        · rw [if_pos e2, if_pos (by omega)]
        · rw [if_neg e2, if_neg (by omega)]
    have hk : p.clauses.getD i default < n → ∀ j, rnI p.clauses n d (i + 1) j = rnI p.clauses n d i j := by
      intro hz j
      unfold rnI
      by_cases e : j = i
      · subst e
        rw [if_pos (by omega), if_neg (Nat.lt_irrefl _)]
        unfold shI
        rw [if_neg (by omega)]
      · by_cases e2 : j < i
        · rw [if_pos e2, if_pos (by omega)]
        · rw [if_neg e2, if_neg (by omega)]
    (repeat (first | refine XK.n ?_ | refine XK.a ?_ | refine XK.b ?_))
    rw [fx]
    generalize p.clauses.getD i default = x at *
    (repeat (first | refine XK.n ?_ | refine XK.a ?_ | refine XK.b ?_)); refine XK.cond rfl (fun h3 => ?_) (fun h3 => ?_)
    · have h3 : n ≤ x := by simpa using h3
      have hz : x + d = shI n d x := by unfold shI; rw [if_pos h3]
      (repeat (first | refine XK.n ?_ | refine XK.a ?_ | refine XK.b ?_))
      rw [fx]
      refine XK.inv ⟨i + 1, hlt, Weak.of hN rfl rfl rfl frI ⟨frI, frI, ⟨rfl, rfl, rfl⟩, rfl, fun j hj => hr _ hz j⟩, by omega⟩
    · have h3 : x < n := by simpa using h3
      (repeat (first | refine XK.n ?_ | refine XK.a ?_ | refine XK.b ?_))
      refine XK.inv ⟨i + 1, hlt, Weak.of hN rfl rfl rfl frI ⟨frI, frI, ⟨rfl, rfl, rfl⟩, rfl, fun j hj => hk h3 j⟩, by omega⟩
  have hie : i = p.clauses.length := by omega
  subst hie
  clear hlt hi
  refine XK.weak (Weak.of (L := [(1, .c (.int .i64 n)), (2, .c (.int .i64 d)), (3, .ptr 3 0), (6, .ptr 6 0)]) (O := [(3, .cells 50 (ptR p (.vec 700 0) (cndsV p.new.start))), (6, .cells 50 zP), (700, .vec 3 1 0 (p.clauses.map (shI n d)).length (fun j => iC ((p.clauses.map (shI n d)).getD j default)))]) (nx := 2000) (nt := 67) (md := fun _ => false) hN rfl rfl rfl frI ⟨frI, frI, ⟨rfl, rfl, rfl⟩, by simp, fun j hj => ?_⟩) ?_
  · have hj : j < p.clauses.length := by simpa using hj
    show iC _ = rnI _ _ _ _ _
    unfold rnI
    rw [map_at (shI n d) hj, if_pos hj]
  refine XK.weak (Weak.frozen (k := 700) hN rfl rfl) ?_
  (repeat (first | refine XK.n ?_ | refine XK.a ?_ | refine XK.b ?_))
  (repeat (first | refine XK.n ?_ | refine XK.a ?_ | refine XK.b ?_)); refine XK.region ?_; refine XL.g ?_
  refine XL.callMA [701] hE rfl rfl rfl rfl trivial (clo_cnds p.new.start hs) rfl rfl rfl rfl rfl ?_
  refine XL.g ?_; refine XL.fin ?_; (repeat (first | refine XK.n ?_ | refine XK.a ?_ | refine XK.b ?_))
  refine XK.loop (ι := Nat) (fun i => ST.of [(1, .c (.int .i64 n)), (2, .c (.int .i64 d)), (3, .ptr 3 0), (6, .ptr 6 0), (43, .vec 701 0), (44, .c (.int .i64 p.new.start.length)), (45, .c (.int .i64 i))] [(3, .cells 50 (ptR p (intsV (p.clauses.map (shI n d))) (.vec 701 0))), (6, .cells 50 zP), (701, .vec 130 2 0 p.new.start.length (rnC p.new.start n d i))] 3000 67 (fun _ => false))
    (fun i => i ≤ p.new.start.length) (fun i => p.new.start.length - i) 0 (Nat.zero_le _) (Weak.of hN rfl rfl rfl frI frI) fun i hi => ?_
  (repeat (first | refine XK.n ?_ | refine XK.a ?_ | refine XK.b ?_)); refine XK.cond rfl (fun hlt => ?_) (fun hlt => ?_) <;> (try simp at hlt)
  · have fx : (if (i : Int).toNat < i then shC n d (p.new.start.getD (i : Int).toNat default) else p.new.start.getD (i : Int).toNat default) = p.new.start.getD i default := if_neg (Nat.lt_irrefl _)
    obtain ⟨b1, b2⟩ := h2 _ (getD_memW hlt)
    have hr : ∀ z, z = shI n d (p.new.start.getD i default).clause → ∀ j, rnC p.new.start n d (i + 1) j = setRowF (rnC p.new.start n d i) i 0 [.c (.int .i64 z)] j := by
      intro z hz j
      unfold setRowF rnC
      by_cases e : j = i
      · subst e
        rw [show Nat.beq j j = true by simp, cond_true, if_pos (by omega), hz, if_neg (Nat.lt_irrefl _)]
        rfl
      · rw [beq_false e, cond_false]
        by_cases e2 : j < i
        · rw [if_pos e2, if_pos (by omega)]
        · rw [if_neg e2, if_neg (by omega)]
    have hk : (p.new.start.getD i default).clause < n → ∀ j, rnC p.new.start n d (i + 1) j = rnC p.new.start n d i j := by
      intro hz j
      unfold rnC
      by_cases e : j = i
      · subst e
        rw [if_pos (by omega), if_neg (Nat.lt_irrefl _)]
        unfold shC shI
        rw [if_neg (by omega)]
      · by_cases e2 : j < i
        · rw [if_pos e2, if_pos (by omega)]
        · rw [if_neg e2, if_neg (by omega)]
    (repeat (first | refine XK.n ?_ | refine XK.a ?_ | refine XK.b ?_))
    rw [fx]
    generalize p.new.start.getD i default = x at *
    (repeat (first | refine XK.n ?_ | refine XK.a ?_ | refine XK.b ?_)); refine XK.cond rfl (fun h3 => ?_) (fun h3 => ?_)
    · have h3 : n ≤ x.clause := by simpa using h3
      have hz : x.clause + d = shI n d x.clause := by unfold shI; rw [if_pos h3]
      (repeat (first | refine XK.n ?_ | refine XK.a ?_ | refine XK.b ?_))
      rw [fx]
      refine XK.inv ⟨i + 1, hlt, Weak.of hN rfl rfl rfl frI ⟨frI, frI, ⟨rfl, rfl, rfl⟩, rfl, fun j hj => hr _ hz j⟩, by omega⟩
    · have h3 : x.clause < n := by simpa using h3
      (repeat (first | refine XK.n ?_ | refine XK.a ?_ | refine XK.b ?_))
      refine XK.inv ⟨i + 1, hlt, Weak.of hN rfl rfl rfl frI ⟨frI, frI, ⟨rfl, rfl, rfl⟩, rfl, fun j hj => hk h3 j⟩, by omega⟩
  have hie : i = p.new.start.length := by omega
  subst hie
  clear hlt hi
  refine XK.weak (Weak.of (L := [(3, .ptr 3 0), (6, .ptr 6 0)]) (O := [(3, .cells 50 (ptR p (intsV (p.clauses.map (shI n d))) (.vec 701 0))), (6, .cells 50 zP), (701, .vec 130 2 0 (p.new.start.map (shC n d)).length (fun j => cndC ((p.new.start.map (shC n d)).getD j default)))]) (nx := 4000) (nt := 67) (md := fun _ => false) hN rfl rfl rfl frI ⟨frI, frI, ⟨rfl, rfl, rfl⟩, by simp, fun j hj => ?_⟩) ?_
  · have hj : j < p.new.start.length := by simpa using hj
    show cndC _ = rnC _ _ _ _ _
    unfold rnC
    rw [map_at (shC n d) hj, if_pos hj]
  refine XK.weak (Weak.frozen (k := 701) hN rfl rfl) ?_
  (repeat (first | refine XK.n ?_ | refine XK.a ?_ | refine XK.b ?_))
  (first | refine XK.out rfl rfl rfl ?_ | refine XK.outN rfl rfl rfl ?_)
  rfl
theorem cls_start {k : K} (hF : KFacts k) : ∀ i, i < k.clauses.length → (k.clauses.getD i default).start.length ≤ 1000000 := fun i hi => by
  have := (hF.clB hi).2.2.2.1
  show (clAt k i).start.length ≤ _
  omega
theorem mcopied_ok (k : K) (h1 : (kValid k).1 = 0) (hk : kW k) : Does Tryz.prog 43 [kV k] (kV k) := by
  have hF := (show kOk k from ⟨hk, h1⟩).facts
  have hnc := hF.nc
  have hnh := hF.nh
  have hna := hF.na
  have hnu := units_len h1
  have hno := off_len hF
  refine Does.mk (fun _ => false) TT_ok Tryz.func43 rfl (by kernel_rfl) Tryz.ntmps43 rfl rfl fun E hT hE hN hR => ?_
  have hm := mixO hE
  (repeat (first | refine XK.n ?_ | refine XK.a ?_ | refine XK.b ?_))
  (repeat (first | refine XK.n ?_ | refine XK.a ?_ | refine XK.b ?_)); refine XK.region ?_; refine XL.g ?_
  refine XL.callKA hE rfl rfl rfl rfl trivial rfl rfl (cln_ints k.holders (by omega)) ?_
  refine XL.g ?_; refine XL.fin ?_; (repeat (first | refine XK.n ?_ | refine XK.a ?_ | refine XK.b ?_))
  (repeat (first | refine XK.n ?_ | refine XK.a ?_ | refine XK.b ?_)); refine XK.region ?_; refine XL.g ?_
  refine XL.callKA hE rfl rfl rfl rfl trivial rfl rfl (cln_units k.units (by omega)) ?_
  refine XL.g ?_; refine XL.fin ?_; (repeat (first | refine XK.n ?_ | refine XK.a ?_ | refine XK.b ?_))
  (repeat (first | refine XK.n ?_ | refine XK.a ?_ | refine XK.b ?_)); refine XK.region ?_; refine XL.g ?_
  refine XL.callKA hE rfl rfl rfl rfl trivial rfl rfl (cln_acts k.acts (by omega)) ?_
  refine XL.g ?_; refine XL.fin ?_; (repeat (first | refine XK.n ?_ | refine XK.a ?_ | refine XK.b ?_))
  (repeat (first | refine XK.n ?_ | refine XK.a ?_ | refine XK.b ?_)); refine XK.region ?_; refine XL.g ?_
  refine XL.callKA hE rfl rfl rfl rfl trivial rfl rfl (cln_ints k.off (by omega)) ?_
  refine XL.g ?_; refine XL.fin ?_; (repeat (first | refine XK.n ?_ | refine XK.a ?_ | refine XK.b ?_))
  by_cases h0 : k.clauses.length = 0
  · (repeat (first | refine XK.n ?_ | refine XK.a ?_ | refine XK.b ?_)); refine XK.region ?_; refine XL.g ?_
    refine XL.callKA hE rfl rfl rfl rfl trivial rfl rfl (cln_cls k.clauses (by omega)) ?_
    refine XL.g ?_; refine XL.fin ?_; (repeat (first | refine XK.n ?_ | refine XK.a ?_ | refine XK.b ?_))
    refine XK.loop (ι := Nat) (fun i => ST.of [(1, .ptr 1 0), (2, .ptr 2 0), (27, .c (.int .i64 k.clauses.length)), (28, .c (.int .i64 0))] [(1, .cells 27 (kC k)), (2, .cells 27 [.c (.int .i64 0), .c (.slice none 0 0), .c (.slice none 0 0), .c (.slice none 0 0), .c (.slice none 0 0), .c (.int .i64 0), .c (.slice none 0 0)])] 1000 43 (fun _ => false))
      (fun i => i = 0) (fun i => 0) 0 rfl (Weak.of hN rfl rfl rfl frI frI) fun i hi => ?_
    (repeat (first | refine XK.n ?_ | refine XK.a ?_ | refine XK.b ?_)); refine XK.cond rfl (fun hlt => ?_) (fun hlt => ?_) <;> (try simp at hlt)
    · omega
    · (repeat (first | refine XK.n ?_ | refine XK.a ?_ | refine XK.b ?_))
      (first | refine XK.out rfl rfl rfl ?_ | refine XK.outN rfl rfl rfl ?_)
      rfl
  · (repeat (first | refine XK.n ?_ | refine XK.a ?_ | refine XK.b ?_)); refine XK.region ?_; refine XL.g ?_
    refine XL.callMA [700] hE rfl rfl rfl rfl trivial (clnM_cls k.clauses (by omega) (by omega)) rfl rfl rfl rfl rfl ?_
    refine XL.g ?_; refine XL.fin ?_; (repeat (first | refine XK.n ?_ | refine XK.a ?_ | refine XK.b ?_))
    refine XK.loop (ι := Nat) (fun i => ST.of [(1, .ptr 1 0), (2, .ptr 2 0), (26, .vec 700 0), (27, .c (.int .i64 k.clauses.length)), (28, .c (.int .i64 i))]
      [(1, .cells 27 [.c (.int .i64 k.parties), intsV k.holders, unitsV k.units, actsV k.acts, .vec 700 0, .c (.int .i64 k.days), intsV k.off]), (2, .cells 27 [.c (.int .i64 0), .c (.slice none 0 0), .c (.slice none 0 0), .c (.slice none 0 0), .c (.slice none 0 0), .c (.int .i64 0), .c (.slice none 0 0)]), (700, clsO 0 k.clauses)] 1000 43 (fun _ => false))
      (fun i => i ≤ k.clauses.length) (fun i => k.clauses.length - i) 0 (Nat.zero_le _) (Weak.of hN rfl rfl rfl frI frI) fun i hi => ?_
    unfold clsO
    (repeat (first | refine XK.n ?_ | refine XK.a ?_ | refine XK.b ?_)); refine XK.cond rfl (fun hlt => ?_) (fun hlt => ?_) <;> (try simp at hlt)
    · have fx : k.clauses.getD (i : Int).toNat default = k.clauses.getD i default := rfl
      have hst : (k.clauses.getD i default).start.length ≤ 8 := (hF.clB hlt).2.2.2.1
      have cc := cln_cnds (k.clauses.getD i default).start (by omega)
      (repeat (first | refine XK.n ?_ | refine XK.a ?_ | refine XK.b ?_))
      (repeat (first | refine XK.n ?_ | refine XK.a ?_ | refine XK.b ?_)); refine XK.drawn hm ?_; refine XD.goA hT rfl rfl rfl rfl ?_
      rw [fx]
      refine XD.callKA hE rfl rfl rfl rfl trivial rfl rfl (cc) ?_
      refine XD.goA hT rfl rfl rfl rfl ?_; refine XD.fin (by kernel_rfl) ?_; (repeat (first | refine XK.n ?_ | refine XK.a ?_ | refine XK.b ?_))
      refine XK.inv ⟨i + 1, hlt, Weak.of hN rfl rfl rfl (by (repeat' (first | exact rfl | exact AvIs.refl _ | exact trivial | exact fun _ _ => rfl | exact fun _ _ => ⟨rfl, AvIs.refl _⟩ | exact cI (by omega) | refine ⟨?_, ?_⟩))) ⟨frI, frI, ⟨rfl, rfl, rfl⟩, rfl, fun j hj => setRow_same rfl j⟩, by omega⟩
    · (repeat (first | refine XK.n ?_ | refine XK.a ?_ | refine XK.b ?_))
      refine XK.weak (Weak.frozen (k := 700) hN rfl rfl) ?_
      (repeat (first | refine XK.n ?_ | refine XK.a ?_ | refine XK.b ?_))
      (first | refine XK.out rfl rfl rfl ?_ | refine XK.outN rfl rfl rfl ?_)
      rfl
noncomputable def appAllR (k : K) (l : List Pt) : K × Int := if (kValid k).1 ≠ 0 then (zeroK, 1) else if 60 < l.length then (zeroK, 3) else allTo k l l.length
theorem appAll_zero {k : K} {l : List Pt} (h : (appAllR k l).2 ≠ 0) : (appAllR k l).1 = zeroK := by
  unfold appAllR at h ⊢
  split
  · rfl
  · split
    · rfl
    · rename_i h1 h2
      rw [if_neg h1, if_neg h2] at h
      exact allTo_zero h
theorem appAllRaw_ok (k : K) (hk : kW k) (l : List Pt) (hl : ptsOk l) : Does Tryz.prog 16 [kV k, ptsV l] (.tup [kE (appAllR k l), .c (.int .i64 (appAllR k l).2)]) := by
  have ck := kValid_ok k hk
  unfold appAllR
  refine Does.mk (fun _ => false) TT_ok Tryz.func16 rfl (by kernel_rfl) Tryz.ntmps16 rfl rfl fun E hT hE hN hR => ?_
  have hm := mixO hE
  (repeat (first | refine XK.n ?_ | refine XK.a ?_ | refine XK.b ?_))
  (repeat (first | refine XK.n ?_ | refine XK.a ?_ | refine XK.b ?_)); refine XK.region ?_; refine XL.g ?_
  refine XL.callLA hE rfl rfl rfl rfl trivial rfl (ck) rfl ?_
  refine XL.g ?_; refine XL.fin ?_; (repeat (first | refine XK.n ?_ | refine XK.a ?_ | refine XK.b ?_))
  (repeat (first | refine XK.n ?_ | refine XK.a ?_ | refine XK.b ?_)); refine XK.cond rfl (fun h1 => ?_) (fun h1 => ?_) <;> (try simp at h1)
  · rw [if_pos h1]
    (repeat (first | refine XK.n ?_ | refine XK.a ?_ | refine XK.b ?_))
    (first | refine XK.out rfl rfl rfl ?_ | refine XK.outN rfl rfl rfl ?_)
    rfl
  rw [if_neg (by simpa using h1)]
  (repeat (first | refine XK.n ?_ | refine XK.a ?_ | refine XK.b ?_)); refine XK.cond rfl (fun h2 => ?_) (fun h2 => ?_) <;> (try simp at h2)
  · rw [if_pos (by omega)]
    (repeat (first | refine XK.n ?_ | refine XK.a ?_ | refine XK.b ?_))
    (first | refine XK.out rfl rfl rfl ?_ | refine XK.outN rfl rfl rfl ?_)
    rfl
  rw [if_neg (by omega)]
  have cm := mcopied_ok k h1 hk
  have ca := appliedRaw_ok k hk l hl (by omega)
  (repeat (first | refine XK.n ?_ | refine XK.a ?_ | refine XK.b ?_)); refine XK.cond rfl (fun h3 => ?_) (fun h3 => ?_) <;> (try simp at h3)
  · have h3 : l = [] := by simpa using h3
    subst h3
    (repeat (first | refine XK.n ?_ | refine XK.a ?_ | refine XK.b ?_))
    (repeat (first | refine XK.n ?_ | refine XK.a ?_ | refine XK.b ?_)); refine XK.region ?_; refine XL.g ?_
    refine XL.callKA hE rfl rfl rfl rfl trivial rfl rfl (cm) ?_
    refine XL.g ?_; refine XL.fin ?_; (repeat (first | refine XK.n ?_ | refine XK.a ?_ | refine XK.b ?_))
    (first | refine XK.out rfl rfl rfl ?_ | refine XK.outN rfl rfl rfl ?_)
    rfl
  · (repeat (first | refine XK.n ?_ | refine XK.a ?_ | refine XK.b ?_))
    generalize allTo k l l.length = r at *
    obtain ⟨a, e⟩ := r
    by_cases he : e = 0
    · subst he
      rw [show kE (a, 0) = kV a from if_pos rfl] at ca ⊢
      (repeat (first | refine XK.n ?_ | refine XK.a ?_ | refine XK.b ?_)); refine XK.region ?_; refine XL.g ?_
      refine XL.callKA hE rfl rfl rfl rfl trivial rfl rfl (ca) ?_
      refine XL.g ?_; refine XL.fin ?_; (repeat (first | refine XK.n ?_ | refine XK.a ?_ | refine XK.b ?_))
      (first | refine XK.out rfl rfl rfl ?_ | refine XK.outN rfl rfl rfl ?_)
      rfl
    · rw [show kE (a, e) = zKV from if_neg he] at ca ⊢
      (repeat (first | refine XK.n ?_ | refine XK.a ?_ | refine XK.b ?_)); refine XK.region ?_; refine XL.g ?_
      refine XL.callKA hE rfl rfl rfl rfl trivial rfl rfl (ca) ?_
      refine XL.g ?_; refine XL.fin ?_; (repeat (first | refine XK.n ?_ | refine XK.a ?_ | refine XK.b ?_))
      (first | refine XK.out rfl rfl rfl ?_ | refine XK.outN rfl rfl rfl ?_)
      rfl
theorem appAll_ok (k : K) (hk : kW k) (l : List Pt) (hl : ptsOk l) : Does Tryz.prog 16 [kV k, ptsV l] (.tup [kV (appAllR k l).1, .c (.int .i64 (appAllR k l).2)]) :=
  (appAllRaw_ok k hk l hl).weaken (AvS.tupS ⟨kE_is fun h => appAll_zero h, AvS.refl _, trivial⟩)
end Go.Proofs.YtlhmgphgnedlkaaGreat
end
section
/- Contracts: package merge: Commute. -/
namespace Go.Proofs.YtlhmgphgnedlkaaGreat
open Go.Eng
set_option maxRecDepth 10000
theorem XD.mv {E : Env} {T : TE} {ops : Array Oper} {Q : Exit → ST → Prop} {k : List It} {tr0 : List (EffM × (List Nat × List Nat))} (hT : TOk E.P T) {st : ST} {o : Oper} {rest : List Oper} {t d : Nat} {v : AV} (hd : o.dst = some d) (hg : o.guard = none) (hds : ops.toList.all (dstOk st) = true) (hm : o ∈ ops.toList)
    (hv : st.fr t = v) (hs : ∀ s' : ST, s'.fr t = v → stepF T ops.toList s' o = some ([], ⟨v, none⟩)) (h : XD E ops Q k (tr0 ++ [(⟨v, []⟩, ([t], []))]) rest (st.app (some d) ⟨v, none⟩)) : XD E ops Q k tr0 (o :: rest) st := by
  refine XD.step (eff := ⟨v, none⟩) (fp := ([t], [])) (fun s' ha => ?_) (by rw [hd]; exact h)
  have hnt := ha.2.1
  have dk : ∀ o' ∈ ops.toList, dstOk s' o' = true := fun o' ho' => by
    have := List.all_eq_true.1 hds o' ho'
    simpa [dstOk, hnt] using this
  have hft : s'.fr t = v := (ha.2.2.2.1 t (by simp)).trans hv
  exact stepF_ok hT (hs s' hft) (fun p hp => by cases hp) (dk o hm) (fun j pol o' d _ hj hdst => dstOk_lt (dk o' (Array.mem_toList_iff.2 (Array.mem_of_getElem? hj))) d hdst)
theorem stepF_mv {T : TE} {l : List Oper} {s' : ST} {o : Oper} {t : Nat} {v : AV} (hop : o.op = .move (.tmp t)) (hg : o.guard = none) (hv : s'.fr t = v) (ho : oblG none v = []) (hs : strip v = v) : stepF T l s' o = some ([], ⟨v, none⟩) := by
  obtain ⟨dst, op, ty, pos, after, guard⟩ := o
  simp only at hop hg
  subst hop hg
  unfold Go.Eng.stepF Go.Eng.stepG
  simp [effG, valF, ST.ev, Op.operands, hv, ho, hs]
def swpL (cs : List Cl) (n : Nat) : List Cl := (cs.set n (cs.getD (n + 1) default)).set (n + 1) (cs.getD n default)
noncomputable def commR (k : K) (p q : Pt) : Bool :=
  if (allTo k [p, q] 2).2 ≠ 0 then false else if (allTo k [q, p] 2).2 ≠ 0 then false
  else listB clB (allTo k [p, q] 2).1.clauses (if p.kind = 1 ∧ q.kind = 1 then swpL (allTo k [q, p] 2).1.clauses k.clauses.length else (allTo k [q, p] 2).1.clauses)
def twoV (p q : Pt) : AV := .rs 19 2 (rowOf (ptC p ++ ptC q) 19)
theorem two_is (p q : Pt) : AvS (twoV p q) (ptsV [p, q]) := AvS.rs (fun i hi => by
  rcases i with _ | _ | i
  · exact AvSL.refl _
  · exact AvSL.refl _
  · omega)
theorem all_valid {k : K} {p q : Pt} (h : (allTo k [p, q] 2).2 = 0) : (kValid k).1 = 0 := by
  have h1 := allTo_before h (show 1 ≤ 2 by omega)
  have e : allTo k [p, q] 1 = applyR k p := by rw [allTo, if_neg (by simp [allTo])]; rfl
  rw [e] at h1
  rcases applyR_cases k p with ⟨h2, _⟩ | ⟨_, h2, _⟩
  · exact absurd h1 h2
  · exact h2
theorem all_two {k : K} {p q : Pt} (h : (allTo k [p, q] 2).2 = 0) : (kValid (allTo k [p, q] 2).1).1 = 0 ∧ (allTo k [p, q] 2).1.clauses.length = k.clauses.length + addsN [p, q] 2 := by
  obtain ⟨⟨_, a, b, _⟩, _⟩ := allTo_all (all_valid h) (l := [p, q]) (i := 2) (Nat.le_refl _) h
  exact ⟨a, b⟩
theorem twoOk {p q : Pt} (hp : ptOk p) (hq : ptOk q) : ptsOk [p, q] := fun x hx => by
  rcases List.mem_cons.1 hx with rfl | hx
  · exact hp
  · rcases List.mem_cons.1 hx with rfl | hx
    · exact hq
    · cases hx
set_option maxHeartbeats 1000000 in
theorem comm_ok (k : K) (hk : kW k) (p q : Pt) (hp : ptOk p) (hq : ptOk q) : Does Tryz.prog 58 [kV k, ptV p, ptV q] (.c (.bool (commR k p q))) := by
  have c1 := (applied_ok k hk [p, q] (twoOk hp hq) (by simp)).argS (args' := [kV k, twoV p q]) ⟨AvS.refl _, two_is p q, trivial⟩
  have c2 := (applied_ok k hk [q, p] (twoOk hq hp) (by simp)).argS (args' := [kV k, twoV q p]) ⟨AvS.refl _, two_is q p, trivial⟩
  have w1 := allTo_W hk (l := [p, q]) (fun x hx => (twoOk hp hq x hx).1) (i := 2) (Nat.le_refl _)
  have w2 := allTo_W hk (l := [q, p]) (fun x hx => (twoOk hq hp x hx).1) (i := 2) (Nat.le_refl _)
  have v1 := fun h => all_two (k := k) (p := p) (q := q) h
  have v2 := fun h => all_two (k := k) (p := q) (q := p) h
  have vk := fun h => all_valid (k := k) (p := p) (q := q) h
  have ad : p.kind = 1 → q.kind = 1 → addsN [q, p] 2 = 2 := fun e1 e2 => by simp [addsN, addP, e1, e2]
  unfold commR
  rw [show [p, q].length = 2 from rfl] at c1
  rw [show [q, p].length = 2 from rfl] at c2
  generalize allTo k [p, q] 2 = x at *
  generalize allTo k [q, p] 2 = y at *
  obtain ⟨a, e⟩ := x
  obtain ⟨b, f⟩ := y
  dsimp only at *
  refine Does.mk (fun _ => false) TT_ok Tryz.func58 rfl (by kernel_rfl) Tryz.ntmps58 rfl rfl fun E hT hE hN hR => ?_
  have hm := mixO hE
  (repeat (first | refine XK.n ?_ | refine XK.a ?_ | refine XK.b ?_))
  (repeat (first | refine XK.n ?_ | refine XK.a ?_ | refine XK.b ?_)); refine XK.region ?_; refine XL.g ?_
  refine XL.callKA hE rfl rfl rfl rfl trivial rfl rfl (c1) ?_
  refine XL.g ?_; refine XL.fin ?_; (repeat (first | refine XK.n ?_ | refine XK.a ?_ | refine XK.b ?_))
  (repeat (first | refine XK.n ?_ | refine XK.a ?_ | refine XK.b ?_)); refine XK.cond rfl (fun h1 => ?_) (fun h1 => ?_) <;> (try simp at h1)
  · rw [if_pos h1]
    (repeat (first | refine XK.n ?_ | refine XK.a ?_ | refine XK.b ?_))
    (first | refine XK.out rfl rfl rfl ?_ | refine XK.outN rfl rfl rfl ?_)
    rfl
  rw [if_neg (by simpa using h1)]
  subst h1
  (repeat (first | refine XK.n ?_ | refine XK.a ?_ | refine XK.b ?_))
  (repeat (first | refine XK.n ?_ | refine XK.a ?_ | refine XK.b ?_)); refine XK.region ?_; refine XL.g ?_
  refine XL.callKA hE rfl rfl rfl rfl trivial rfl rfl (c2) ?_
  refine XL.g ?_; refine XL.fin ?_; (repeat (first | refine XK.n ?_ | refine XK.a ?_ | refine XK.b ?_))
  (repeat (first | refine XK.n ?_ | refine XK.a ?_ | refine XK.b ?_)); refine XK.cond rfl (fun h2 => ?_) (fun h2 => ?_) <;> (try simp at h2)
  · rw [if_pos h2]
    (repeat (first | refine XK.n ?_ | refine XK.a ?_ | refine XK.b ?_))
    (first | refine XK.out rfl rfl rfl ?_ | refine XK.outN rfl rfl rfl ?_)
    rfl
  rw [if_neg (by simpa using h2)]
  subst h2
  obtain ⟨u1, u2⟩ := v1 rfl
  obtain ⟨u3, u4⟩ := v2 rfl
  have hFk := (show kOk k from ⟨hk, vk rfl⟩).facts
  have hFa := (show kOk a from ⟨w1, u1⟩).facts
  have hFb := (show kOk b from ⟨w2, u3⟩).facts
  have n1 := hFk.nc
  have n2 := hFa.nc
  have n3 := hFb.nc
  (repeat (first | refine XK.n ?_ | refine XK.a ?_ | refine XK.b ?_))
  by_cases hb : p.kind = 1 ∧ q.kind = 1
  · rw [if_pos hb]
    have had := ad hb.1 hb.2
    (repeat (first | refine XK.n ?_ | refine XK.a ?_ | refine XK.b ?_)); refine XK.region ?_; refine XL.g ?_
    refine XL.callMA [700] hE rfl rfl rfl rfl trivial (clnM_cls b.clauses (by omega) (by omega)) rfl rfl rfl rfl rfl ?_
    refine XL.g ?_; refine XL.fin ?_; (repeat (first | refine XK.n ?_ | refine XK.a ?_ | refine XK.b ?_))
    have hlb : b.clauses.length = k.clauses.length + 2 := by omega
    have hsl : (swpL b.clauses k.clauses.length).length = b.clauses.length := by simp [swpL]
    have hrow : ∀ j, j < b.clauses.length → clC ((swpL b.clauses k.clauses.length).getD j default) = setRowF (setRowF (fun i => clC (b.clauses.getD i default)) k.clauses.length 0 (clC (b.clauses.getD (k.clauses.length + 1) default))) (k.clauses.length + 1) 0 (clC (b.clauses.getD k.clauses.length default)) j := by
      intro j hj
      generalize k.clauses.length = n at *
      generalize hcs : b.clauses = cs at *
      unfold setRowF swpL
      by_cases e : j = n + 1
      · subst e
        rw [show Nat.beq (n + 1) (n + 1) = true by simp, cond_true]
        rw [show ((cs.set n (cs.getD (n + 1) default)).set (n + 1) (cs.getD n default)).getD (n + 1) default = cs.getD n default by
          rw [List.getD_eq_getElem?_getD, List.getElem?_set_self (by rw [List.length_set]; omega)]; rfl]
        rw [show Nat.beq (n + 1) n = false from beq_false (by omega), cond_false]
        rfl
      · rw [beq_false e, cond_false]
        by_cases e2 : j = n
        · subst e2
          rw [show Nat.beq j j = true by simp, cond_true]
          rw [show ((cs.set j (cs.getD (j + 1) default)).set (j + 1) (cs.getD j default)).getD j default = cs.getD (j + 1) default by
            rw [List.getD_eq_getElem?_getD, List.getElem?_set_ne (by omega), List.getElem?_set_self (by omega)]; rfl]
          rfl
        · rw [beq_false e2, cond_false]
          rw [show ((cs.set n (cs.getD (n + 1) default)).set (n + 1) (cs.getD n default)).getD j default = cs.getD j default by
            rw [List.getD_eq_getElem?_getD, List.getElem?_set_ne (by omega), List.getElem?_set_ne (by omega)]; rfl]
    have ce := meqCls_ok a.clauses (swpL b.clauses k.clauses.length) (by omega) (cls_start hFa)
    have f1 : ((k.clauses.length : Int) + 1).toNat = k.clauses.length + 1 := by omega
    have f2 : (k.clauses.length : Int).toNat = k.clauses.length := by omega
    (repeat (first | refine XK.n ?_ | refine XK.a ?_ | refine XK.b ?_))
    (repeat (first | refine XK.n ?_ | refine XK.a ?_ | refine XK.b ?_)); refine XK.cond rfl (fun h3 => ?_) (fun h3 => ?_)
    · clear h3
      refine XK.drawn hm ?_
      refine XD.goN 2 hT rfl rfl rfl rfl rfl rfl trivial ?_
      refine XD.mv (t := 10) (d := 48) (v := .vec 700 0) hT rfl rfl rfl (.tail _ (.tail _ (.head _))) rfl (fun s' h => ?_) ?_
      · exact stepF_mv rfl rfl h rfl rfl
      refine XD.goA hT rfl rfl rfl rfl ?_
      refine XD.fin (by kernel_rfl) ?_
      (repeat (first | refine XK.n ?_ | refine XK.a ?_ | refine XK.b ?_))
      refine XK.weak (Weak.trans (Weak.of (L := [(7, .ptr 73 0), (10, .vec 700 0)]) (O := [(73, .cells 27 (kC a)), (700, clsO 0 (swpL b.clauses k.clauses.length))]) (nx := 1000) (nt := 66) (md := fun _ => false) hN rfl rfl rfl frI ⟨frI, ⟨rfl, rfl, rfl⟩, hsl.symm, fun j hj => hrow j hj⟩) (Weak.frozen (k := 700) hN rfl rfl)) ?_
      (repeat (first | refine XK.n ?_ | refine XK.a ?_ | refine XK.b ?_))
      (repeat (first | refine XK.n ?_ | refine XK.a ?_ | refine XK.b ?_)); refine XK.region ?_; refine XL.g ?_
      refine XL.callLA hE rfl rfl rfl rfl trivial rfl (ce) rfl ?_
      refine XL.g ?_; refine XL.fin ?_; (repeat (first | refine XK.n ?_ | refine XK.a ?_ | refine XK.b ?_))
      (first | refine XK.out rfl rfl rfl ?_ | refine XK.outN rfl rfl rfl ?_)
      rfl
    · exact absurd h3 (by simp [hb])
  · rw [if_neg hb]
    have ce := meqCls_ok a.clauses b.clauses (by omega) (cls_start hFa)
    (repeat (first | refine XK.n ?_ | refine XK.a ?_ | refine XK.b ?_)); refine XK.region ?_; refine XL.g ?_
    refine XL.callKA hE rfl rfl rfl rfl trivial rfl rfl (cln_cls b.clauses (by omega)) ?_
    refine XL.g ?_; refine XL.fin ?_; (repeat (first | refine XK.n ?_ | refine XK.a ?_ | refine XK.b ?_))
    (repeat (first | refine XK.n ?_ | refine XK.a ?_ | refine XK.b ?_))
    (repeat (first | refine XK.n ?_ | refine XK.a ?_ | refine XK.b ?_)); refine XK.cond rfl (fun h3 => ?_) (fun h3 => ?_)
    · exact absurd h3 (by simpa using hb)
    clear h3
    (repeat (first | refine XK.n ?_ | refine XK.a ?_ | refine XK.b ?_))
    (repeat (first | refine XK.n ?_ | refine XK.a ?_ | refine XK.b ?_)); refine XK.region ?_; refine XL.g ?_
    refine XL.callLA hE rfl rfl rfl rfl trivial rfl (ce) rfl ?_
    refine XL.g ?_; refine XL.fin ?_; (repeat (first | refine XK.n ?_ | refine XK.a ?_ | refine XK.b ?_))
    (first | refine XK.out rfl rfl rfl ?_ | refine XK.outN rfl rfl rfl ?_)
    rfl
end Go.Proofs.YtlhmgphgnedlkaaGreat
end
