import Derived.Test.YtlhmgphgnedlkaaGreatZz13
import Derived.Test.YtlhmgphgnedlkaaGreatZz18
import Derived.Test.YtlhmgphgnedlkaaGreatZz15
section
/- Contracts: package system: Start. -/
namespace Go.Proofs.YtlhmgphgnedlkaaGreat
open Go.Eng
set_option maxRecDepth 10000
theorem cloneI_ok (l : List Int) (h0 : 0 < l.length) (hl : l.length ≤ 1000000) : DoesM Tryz.prog 37 [intsV l] [] (.vec 0 0) [.vec 3 1 0 l.length (fun i => [.c (.int .i64 (l.getD i default))])] := by
  refine DoesM.mk (fun d => Nat.beq d 5) 100 TT_ok Tryz.func37 rfl (by kernel_rfl) Tryz.ntmps37 rfl rfl rfl fun E hT hE hN hR => ?_
  have hm := mixO hE
  (repeat (first | refine XK.n ?_ | refine XK.a ?_ | refine XK.b ?_)); refine XK.cond rfl (fun h1 => ?_) (fun h1 => ?_)
  · cases h1
  · (repeat (first | refine XK.n ?_ | refine XK.a ?_ | refine XK.b ?_))
    refine XK.weak (Weak.trans (Weak.stamp (k := 121) (t := 0) hN rfl rfl) (Weak.of (L := [(2, .vec 121 0)]) (O := [(121, .vec 3 1 0 l.length (fun i => [.c (.int .i64 (l.getD i default))]))]) (nx := 1000) (nt := 8) (md := fun _ => false) hN rfl rfl rfl frI ⟨⟨rfl, rfl, rfl⟩, Nat.zero_add _, fun j hj => by rcases j with _ | j <;> rfl⟩)) ?_
    (first | refine XK.outR [121] hN rfl rfl rfl ?_ rfl rfl ?_ | refine XK.outRN [121] hN rfl rfl rfl ?_ rfl rfl ?_)
    · (repeat' (first | exact rfl | exact AvIs.refl _ | exact trivial | exact fun _ _ => rfl | exact fun _ _ => ⟨rfl, AvIs.refl _⟩ | refine ⟨?_, ?_⟩))
    · (repeat' (first | exact rfl | exact AvIs.refl _ | exact trivial | exact fun _ _ => rfl | exact fun _ _ => ⟨rfl, AvIs.refl _⟩ | refine ⟨?_, ?_⟩))
def initTo (k : K) (i : Nat) : Wk := ⟨0, fun i => k.holders.getD i default, fun _ => false, fun j => if j < i then initM (clAt k j) else ⟨0, 0, 0, 0, false⟩⟩
theorem startGo_ok (k : K) (hk : kW k) (h : (kValid k).1 = 0) : Does Tryz.prog 32 [kV k] (.tup [rawS k (startW k (initW k)), .c (.int .i64 0)]) := by
  refine Does.mk (fun _ => false) TT_ok Tryz.func32 rfl (by kernel_rfl) Tryz.ntmps32 rfl rfl fun E hT hE hN hR => ?_
  have hm := mixO hE
  have hF := (show kOk k from ⟨hk, h⟩).facts
  have b1 := hF.nh
  have b2 := hF.na
  have b3 := hF.nc
  (repeat (first | refine XK.n ?_ | refine XK.a ?_ | refine XK.b ?_)); refine XK.region ?_; refine XL.g ?_
  refine XL.callLA hE rfl rfl rfl rfl trivial rfl (kValid_ok k hk) rfl ?_
  refine XL.g ?_; refine XL.fin ?_; (repeat (first | refine XK.n ?_ | refine XK.a ?_ | refine XK.b ?_))
  (repeat (first | refine XK.n ?_ | refine XK.a ?_ | refine XK.b ?_)); refine XK.cond rfl (fun h1 => ?_) (fun h1 => ?_) <;> (try simp at h1)
  · exact absurd h h1
  · (repeat (first | refine XK.n ?_ | refine XK.a ?_ | refine XK.b ?_)); refine XK.drawn hm ?_; refine XD.goA hT rfl rfl rfl rfl ?_
    refine XD.callMA [700] hE rfl rfl rfl rfl trivial (cloneI_ok k.holders (by omega) (by omega)) rfl rfl rfl rfl rfl ?_
    refine XD.goA hT rfl rfl rfl rfl ?_; refine XD.fin (by kernel_rfl) ?_; (repeat (first | refine XK.n ?_ | refine XK.a ?_ | refine XK.b ?_))
    refine XK.loop (ι := Nat) (fun i => ST.of [(2, .ptr 2 0), (6, .ptr 226 0), (33, clsV k.clauses), (34, .c (.int .i64 k.clauses.length)), (35, .c (.int .i64 i))] [(2, .cells 41 [.c (.int .i64 0), .c (.slice none 0 0), .c (.slice none 0 0), .c (.slice none 0 0)]), (226, wO k (initTo k i) 700 219 223), (700, wHold k (initTo k i)), (219, wUsed k (initTo k i)), (223, wMark k (initTo k i))] 1000 65 (fun _ => false))
      (fun i => i ≤ k.clauses.length) (fun i => k.clauses.length - i) 0 (Nat.zero_le _)
      (Weak.of hN rfl rfl rfl frI (by (repeat' (first | exact rfl | exact AvIs.refl _ | exact trivial | exact fun _ _ => rfl | exact fun _ _ => ⟨rfl, AvIs.refl _⟩ | exact fun _ hi => absurd hi (Nat.not_lt_zero _) | (intro i hi; cases Nat.lt_one_iff.1 hi; rfl) | (intro j hj; by_cases hji : j = (0); (· subst hji; simp [setRowF, setL, mkC, Wk.upM, initTo]; done); (· simp [setRowF, beq_false hji, Wk.upM, initTo, hji, lt_succ_ne hji]; done)) | refine ⟨?_, ?_⟩)))) fun i hi => ?_
    (repeat (first | refine XK.n ?_ | refine XK.a ?_ | refine XK.b ?_)); refine XK.cond rfl (fun hlt => ?_) (fun hlt => ?_) <;> (try simp at hlt)
    · have fc : k.clauses.getD (i : Int).toNat default = clAt k i := rfl
      (repeat (first | refine XK.n ?_ | refine XK.a ?_ | refine XK.b ?_))
      rw [fc]
      (repeat (first | refine XK.n ?_ | refine XK.a ?_ | refine XK.b ?_)); refine XK.cond rfl (fun h5 => ?_) (fun h5 => ?_) <;> (try simp at h5)
      · (repeat (first | refine XK.n ?_ | refine XK.a ?_ | refine XK.b ?_))
        refine XK.inv ⟨i + 1, hlt, Weak.of hN rfl rfl rfl frI (by (repeat' (first | exact rfl | exact AvIs.refl _ | exact trivial | exact fun _ _ => rfl | exact fun _ _ => ⟨rfl, AvIs.refl _⟩ | exact fun _ hi => absurd hi (Nat.not_lt_zero _) | (intro i hi; cases Nat.lt_one_iff.1 hi; rfl) | (intro j hj; by_cases hji : j = (i); (· subst hji; simp [setRowF, setL, mkC, Wk.upM, initTo, initM, h5]; done); (· simp [setRowF, beq_false hji, Wk.upM, initTo, initM, h5, hji, lt_succ_ne hji]; done)) | refine ⟨?_, ?_⟩))), by omega⟩
      · (repeat (first | refine XK.n ?_ | refine XK.a ?_ | refine XK.b ?_))
        refine XK.inv ⟨i + 1, hlt, Weak.of hN rfl rfl rfl frI (by (repeat' (first | exact rfl | exact AvIs.refl _ | exact trivial | exact fun _ _ => rfl | exact fun _ _ => ⟨rfl, AvIs.refl _⟩ | exact fun _ hi => absurd hi (Nat.not_lt_zero _) | (intro i hi; cases Nat.lt_one_iff.1 hi; rfl) | (intro j hj; by_cases hji : j = (i); (· subst hji; simp [setRowF, setL, mkC, Wk.upM, initTo, initM, h5]; done); (· simp [setRowF, beq_false hji, Wk.upM, initTo, initM, h5, hji, lt_succ_ne hji]; done)) | refine ⟨?_, ?_⟩))), by omega⟩
    · have hie : i = k.clauses.length := by omega
      subst hie
      refine XK.weak (Weak.of (L := [(2, .ptr 2 0), (6, .ptr 226 0)]) (O := [(2, .cells 41 [.c (.int .i64 0), .c (.slice none 0 0), .c (.slice none 0 0), .c (.slice none 0 0)]), (226, wO k (initW k) 700 219 223), (700, wHold k (initW k)), (219, wUsed k (initW k)), (223, wMark k (initW k))]) (nx := 3000) (nt := 65) (md := fun _ => false) hN rfl rfl rfl frI ⟨frI, frI, frI, frI, ⟨⟨rfl, rfl, rfl⟩, rfl, fun j hj => ?_⟩⟩) ?_
      · show mkC (initM (clAt k j)) = mkC (if j < k.clauses.length then initM (clAt k j) else _)
        rw [if_pos hj]
      · (repeat (first | refine XK.n ?_ | refine XK.a ?_ | refine XK.b ?_))
        (repeat (first | refine XK.n ?_ | refine XK.a ?_ | refine XK.b ?_)); refine XK.region ?_; refine XL.g ?_
        refine XL.callMA [226, 700, 219, 223] hE rfl rfl rfl rfl trivial (wstart_ok k hF (initW k)) rfl rfl rfl rfl rfl ?_
        refine XL.g ?_; refine XL.fin ?_; (repeat (first | refine XK.n ?_ | refine XK.a ?_ | refine XK.b ?_))
        generalize startW k (initW k) = w' at *
        refine XK.weak (Weak.trans (Weak.of (L := [(2, .ptr 2 0), (3, .c (.int .i64 0))]) (O := (2, .cells 41 [.c (.int .i64 w'.day), .vec 700 0, .vec 219 0, .vec 223 0]) :: (700, wHold k w') :: (219, wUsed k w') :: (223, wMark k w') :: []) (nx := 5000) (nt := 65) (md := fun _ => false) hN rfl rfl rfl frI frI)
          (Weak.trans (Weak.frozen (k := 700) hN rfl rfl) (Weak.trans (Weak.frozen (k := 219) hN rfl rfl) (Weak.frozen (k := 223) hN rfl rfl)))) ?_
        (first | refine XK.out rfl rfl rfl ?_ | refine XK.outN rfl rfl rfl ?_)
        rfl
theorem startErr_ok (k : K) (hk : kW k) (h : (kValid k).1 ≠ 0) : Does Tryz.prog 32 [kV k] (.tup [nilS, .c (.int .i64 1)]) := by
  refine Does.mk (fun _ => false) TT_ok Tryz.func32 rfl (by kernel_rfl) Tryz.ntmps32 rfl rfl fun E hT hE hN hR => ?_
  have hm := mixO hE
  (repeat (first | refine XK.n ?_ | refine XK.a ?_ | refine XK.b ?_)); refine XK.region ?_; refine XL.g ?_
  refine XL.callLA hE rfl rfl rfl rfl trivial rfl (kValid_ok k hk) rfl ?_
  refine XL.g ?_; refine XL.fin ?_; (repeat (first | refine XK.n ?_ | refine XK.a ?_ | refine XK.b ?_))
  (repeat (first | refine XK.n ?_ | refine XK.a ?_ | refine XK.b ?_)); refine XK.cond rfl (fun h1 => ?_) (fun h1 => ?_) <;> (try simp at h1)
  · (repeat (first | refine XK.n ?_ | refine XK.a ?_ | refine XK.b ?_))
    (first | refine XK.out rfl rfl rfl ?_ | refine XK.outN rfl rfl rfl ?_)
    rfl
  · exact absurd h1 h
noncomputable def startS (k : K) : St × Int := if (kValid k).1 ≠ 0 then (zS, 1) else (outS k (startW k (initW k)), 0)
theorem startS_ok (k : K) (hk : kW k) : Does Tryz.prog 32 [kV k] (sr (startS k)) := by
  have nil (e : Int) : AvS (.tup [nilS, .c (.int .i64 e)]) (sr (zS, e)) := AvS.tup ⟨AvS.agg ⟨AvS.refl _, AvS.nil, AvS.nil, AvS.nil, trivial⟩, AvS.refl _, trivial⟩
  unfold startS
  split
  · rename_i h
    exact (startErr_ok k hk h).weaken (nil 1)
  · rename_i h
    exact (startGo_ok k hk (by simpa using h)).weaken (outS_is k _)
end Go.Proofs.YtlhmgphgnedlkaaGreat
end
section
/- Contracts: the helpers of the statements about layer 15. -/
namespace Go.Proofs.YtlhmgphgnedlkaaGreat
open Go.Eng
set_option maxRecDepth 10000
theorem getD_memW {α : Type} [Inhabited α] {l : List α} {i : Nat} (h : i < l.length) : l.getD i default ∈ l := by
  rw [List.getD_eq_getElem?_getD, List.getElem?_eq_getElem h]
  exact List.getElem_mem h
def smallQ (k : K) (n : Int) : Bool :=
  if (decide ((20 : Int) < k.holders.length) || decide ((30 : Int) < k.units.length) || decide ((70 : Int) < k.acts.length) || decide (n < k.clauses.length) || decide ((100 : Int) < k.off.length)) = true then false
  else k.clauses.all (fun x => decide (x.start.length ≤ 20))
theorem smallQ_ok (k : K) (n : Int) : Does Tryz.prog 28 [kV k, .c (.int .i64 n)] (.c (.bool (smallQ k n))) := by
  refine Does.mk (fun _ => false) TT_ok Tryz.func28 rfl (by kernel_rfl) Tryz.ntmps28 rfl rfl fun E hT hE hN hR => ?_
  have hm := mixO hE
  (repeat (first | refine XK.n ?_ | refine XK.a ?_ | refine XK.b ?_)); refine XK.cond rfl (fun h1 => ?_) (fun h1 => ?_)
  · (repeat (first | refine XK.n ?_ | refine XK.a ?_ | refine XK.b ?_))
    (first | refine XK.out rfl rfl rfl ?_ | refine XK.outN rfl rfl rfl ?_)
    simp only [smallQ, if_pos h1]
  · rw [smallQ, if_neg (by rw [h1]; simp)]
    (repeat (first | refine XK.n ?_ | refine XK.a ?_ | refine XK.b ?_))
    refine XK.loop (ι := Nat) (fun i => ST.of [(2, .ptr 2 0), (4, .c (.bool false)), (5, .c (.int .i64 i))] [(2, .cells 27 (kC k))] 1000 50 (fun _ => false))
      (fun i => i ≤ k.clauses.length ∧ ∀ j, j < i → decide ((k.clauses.getD j default).start.length ≤ 20) = true) (fun i => k.clauses.length - i) 0 ⟨Nat.zero_le _, fun j hj => absurd hj (Nat.not_lt_zero _)⟩
      (Weak.of hN rfl rfl rfl frI frI) fun i hi => ?_
    obtain ⟨hi1, hi2⟩ := hi
    (repeat (first | refine XK.n ?_ | refine XK.a ?_ | refine XK.b ?_))
    refine XK.fact (Sat.rs_len (j := 37) rfl) fun hlen => ?_
    have hm' : k.clauses.length ≤ 9223372036854775807 := hlen.1
    (repeat (first | refine XK.n ?_ | refine XK.a ?_ | refine XK.b ?_)); refine XK.cond rfl (fun hlt => ?_) (fun hlt => ?_) <;> (try simp at hlt)
    · (repeat (first | refine XK.n ?_ | refine XK.a ?_ | refine XK.b ?_)); refine XK.cond rfl (fun h2 => ?_) (fun h2 => ?_) <;> (try simp at h2)
      · (repeat (first | refine XK.n ?_ | refine XK.a ?_ | refine XK.b ?_))
        (first | refine XK.out rfl rfl rfl ?_ | refine XK.outN rfl rfl rfl ?_)
        have : k.clauses.all (fun x => decide (x.start.length ≤ 20)) = false := all_not hlt (by simp at h2 ⊢; omega)
        rw [this]
      · (repeat (first | refine XK.n ?_ | refine XK.a ?_ | refine XK.b ?_))
        refine XK.inv ⟨i + 1, ⟨hlt, fun j hj => ?_⟩, (Weak.of hN rfl rfl rfl frI frI), by omega⟩
        by_cases h : j = i
        · subst h; simp at h2 ⊢; omega
        · exact hi2 j (by omega)
    · (repeat (first | refine XK.n ?_ | refine XK.a ?_ | refine XK.b ?_))
      (first | refine XK.out rfl rfl rfl ?_ | refine XK.outN rfl rfl rfl ?_)
      have : k.clauses.all (fun x => decide (x.start.length ≤ 20)) = true := all_at.2 fun j hj => hi2 j (by omega)
      rw [this]
def endedM (m : Mk) : Bool := m.status == 3 || m.status == 4 || m.status == 5
theorem ended_ok (m : Mk) : Does Tryz.prog 13 [.agg (mkC m)] (.c (.bool (endedM m))) := by
  refine Does.mk (fun _ => false) TT_ok Tryz.func13 rfl (by kernel_rfl) Tryz.ntmps13 rfl rfl fun E hT hE hN hR => ?_
  have hm := mixO hE
  (repeat (first | refine XK.n ?_ | refine XK.a ?_ | refine XK.b ?_))
  (first | refine XK.out rfl rfl rfl ?_ | refine XK.outN rfl rfl rfl ?_)
  rfl
theorem runsR_ok (m : Mk) : Does Tryz.prog 15 [.agg (mkC m)] (.c (.bool (runsM m))) := by
  refine Does.mk (fun _ => false) TT_ok Tryz.func15 rfl (by kernel_rfl) Tryz.ntmps15 rfl rfl fun E hT hE hN hR => ?_
  have hm := mixO hE
  (repeat (first | refine XK.n ?_ | refine XK.a ?_ | refine XK.b ?_))
  (first | refine XK.out rfl rfl rfl ?_ | refine XK.outN rfl rfl rfl ?_)
  rfl
noncomputable def runE (k : K) (l : List Int) : Nat → St × Int
  | 0 => startS k
  | n + 1 => if (runE k l n).2 = 0 then stepS k (runE k l n).1 (l.getD n default) else runE k l n
theorem runE_stop {k : K} {l : List Int} {i : Nat} (h : (runE k l i).2 ≠ 0) : ∀ j, i ≤ j → runE k l j = runE k l i := by
  intro j hj
  induction j with
  | zero => obtain rfl : i = 0 := by omega
            rfl
  | succ j ih =>
    by_cases e : i = j + 1
    · subst e; rfl
    · have := ih (by omega)
      rw [runE, this, if_neg h]
def eA : St := ⟨0, [0, 1], [false, false], [⟨1, 2, 0, 0, false⟩, ⟨0, 0, 0, -1, false⟩]⟩
end Go.Proofs.YtlhmgphgnedlkaaGreat
end
section
/- Contracts: package migrate: marks. -/
namespace Go.Proofs.YtlhmgphgnedlkaaGreat
open Go.Eng
set_option maxRecDepth 10000
def idleMk : Mk := ⟨0, 0, 0, -1, false⟩
def voidM (m : Mk) : Mk := if (m.status == 0 || runsM m) = true then endM m 5 else m
def contP (next : Cl) (m : Mk) : Mk := ⟨m.status, m.left, m.got, m.bearer, m.paused && (next.pause != -1)⟩
def contM (old next : Cl) (m : Mk) : Mk :=
  if next.kind = 1 ∧ next.need ≤ m.got then endM (contP next m) 3
  else if m.status = 1 then ⟨m.status, max 1 (m.left + next.after - old.after), m.got, m.bearer, m.paused && (next.pause != -1)⟩
  else if next.grace = 0 then ⟨1, 1, m.got, m.bearer, m.paused && (next.pause != -1)⟩
  else ⟨m.status, max 1 (m.left + next.grace - old.grace), m.got, m.bearer, m.paused && (next.pause != -1)⟩
def restM (old next : Cl) (m : Mk) (hold : List Int) : Mk := ⟨1, next.after, 0, if next.kind = 4 then -1 else if old.kind = 4 then hold.getD next.role.toNat default else m.bearer, false⟩
def spanM (d : Int) (old : Cl) (m : Mk) : Mk := if m.status = 1 then ⟨m.status, max 1 (m.left + d - old.after), m.got, m.bearer, m.paused⟩ else m
theorem idleM_ok : Does Tryz.prog 100 [] (.agg (mkC idleMk)) := by
  refine Does.mk (fun _ => false) TT_ok Tryz.func100 rfl (by kernel_rfl) Tryz.ntmps100 rfl rfl fun E hT hE hN hR => ?_
  have hm := mixO hE
  (repeat (first | refine XK.n ?_ | refine XK.a ?_ | refine XK.b ?_))
  (first | refine XK.out rfl rfl rfl ?_ | refine XK.outN rfl rfl rfl ?_)
  rfl
theorem mruns_ok (m : Mk) : Does Tryz.prog 104 [.agg (mkC m)] (.c (.bool (runsM m))) := by
  refine Does.mk (fun _ => false) TT_ok Tryz.func104 rfl (by kernel_rfl) Tryz.ntmps104 rfl rfl fun E hT hE hN hR => ?_
  have hm := mixO hE
  (repeat (first | refine XK.n ?_ | refine XK.a ?_ | refine XK.b ?_))
  (first | refine XK.out rfl rfl rfl ?_ | refine XK.outN rfl rfl rfl ?_)
  rfl
theorem mended_ok (m : Mk) (s : Int) : Does Tryz.prog 130 [.agg (mkC m), .c (.int .i64 s)] (.agg (mkC (endM m s))) := by
  refine Does.mk (fun _ => false) TT_ok Tryz.func130 rfl (by kernel_rfl) Tryz.ntmps130 rfl rfl fun E hT hE hN hR => ?_
  have hm := mixO hE
  (repeat (first | refine XK.n ?_ | refine XK.a ?_ | refine XK.b ?_))
  (first | refine XK.out rfl rfl rfl ?_ | refine XK.outN rfl rfl rfl ?_)
  rfl
theorem voided_ok (m : Mk) : Does Tryz.prog 103 [.agg (mkC m)] (.agg (mkC (voidM m))) := by
  refine Does.mk (fun _ => false) TT_ok Tryz.func103 rfl (by kernel_rfl) Tryz.ntmps103 rfl rfl fun E hT hE hN hR => ?_
  have hm := mixO hE
  (repeat (first | refine XK.n ?_ | refine XK.a ?_ | refine XK.b ?_)); refine XK.region ?_; refine XL.g ?_
  refine XL.callGA hE rfl rfl rfl rfl rfl rfl rfl rfl (mruns_ok m) rfl ?_
  refine XL.g ?_; refine XL.fin ?_; (repeat (first | refine XK.n ?_ | refine XK.a ?_ | refine XK.b ?_))
  (repeat (first | refine XK.n ?_ | refine XK.a ?_ | refine XK.b ?_)); refine XK.cond rfl (fun h => ?_) (fun h => ?_)
  · (repeat (first | refine XK.n ?_ | refine XK.a ?_ | refine XK.b ?_)); refine XK.region ?_; refine XL.g ?_
    refine XL.callLA hE rfl rfl rfl rfl trivial rfl (mended_ok m 5) rfl ?_
    refine XL.g ?_; refine XL.fin ?_; (repeat (first | refine XK.n ?_ | refine XK.a ?_ | refine XK.b ?_))
    (first | refine XK.out rfl rfl rfl ?_ | refine XK.outN rfl rfl rfl ?_)
    rw [voidM, if_pos h]
    rfl
  · (repeat (first | refine XK.n ?_ | refine XK.a ?_ | refine XK.b ?_))
    (first | refine XK.out rfl rfl rfl ?_ | refine XK.outN rfl rfl rfl ?_)
    rw [voidM, if_neg (by rw [h]; exact Bool.false_ne_true)]
    rfl
theorem mx1 (x : Int) : (bif true then (if 1 < x then x else (1 : Int)) else if x < 1 then x else 1) = max 1 x := by
  rw [cond_true]; split <;> omega
def dB (x : Cl) : Prop := (-1000000 ≤ x.after ∧ x.after ≤ 1000000) ∧ (-1000000 ≤ x.grace ∧ x.grace ≤ 1000000)
def lB (m : Mk) : Prop := -1000000 ≤ m.left ∧ m.left ≤ 1000000
theorem continued_ok (old next : Cl) (m : Mk) (ho : dB old) (hn : dB next) (hb : lB m) :
    Does Tryz.prog 105 [clV old, clV next, .agg (mkC m)] (.agg (mkC (contM old next m))) := by
  obtain ⟨⟨o1, o2⟩, o3, o4⟩ := ho
  obtain ⟨⟨n1, n2⟩, n3, n4⟩ := hn
  obtain ⟨b1, b2⟩ := hb
  refine Does.mk (fun _ => false) TT_ok Tryz.func105 rfl (by kernel_rfl) Tryz.ntmps105 rfl rfl fun E hT hE hN hR => ?_
  have hm := mixO hE
  (repeat (first | refine XK.n ?_ | refine XK.a ?_ | refine XK.b ?_)); refine XK.cond rfl (fun h1 => ?_) (fun h1 => ?_)
  · (repeat (first | refine XK.n ?_ | refine XK.a ?_ | refine XK.b ?_)); refine XK.region ?_; refine XL.g ?_
    refine XL.callLA hE rfl rfl rfl rfl trivial rfl (mended_ok (contP next m) 3) rfl ?_
    refine XL.g ?_; refine XL.fin ?_; (repeat (first | refine XK.n ?_ | refine XK.a ?_ | refine XK.b ?_))
    (first | refine XK.out rfl rfl rfl ?_ | refine XK.outN rfl rfl rfl ?_)
    simp only [Bool.and_eq_true, beq_iff_eq, decide_eq_true_eq] at h1
    rw [contM, if_pos h1]
    rfl
  have h1' : ¬ (next.kind = 1 ∧ next.need ≤ m.got) := fun e => by
    simp only [e.1, e.2, decide_true, Bool.and_true, beq_self_eq_true] at h1
    cases h1
  rw [contM, if_neg h1']
  (repeat (first | refine XK.n ?_ | refine XK.a ?_ | refine XK.b ?_)); refine XK.cond rfl (fun h2 => ?_) (fun h2 => ?_) <;> (try simp at h2)
  · rw [if_pos h2]
    (repeat (first | refine XK.n ?_ | refine XK.a ?_ | refine XK.b ?_))
    (first | refine XK.out rfl rfl rfl ?_ | refine XK.outN rfl rfl rfl ?_)
    rw [mx1]; rfl
  rw [if_neg h2]
  (repeat (first | refine XK.n ?_ | refine XK.a ?_ | refine XK.b ?_)); refine XK.cond rfl (fun h3 => ?_) (fun h3 => ?_) <;> (try simp at h3)
  · rw [if_pos h3]
    (repeat (first | refine XK.n ?_ | refine XK.a ?_ | refine XK.b ?_))
    (first | refine XK.out rfl rfl rfl ?_ | refine XK.outN rfl rfl rfl ?_)
    rfl
  rw [if_neg h3]
  (repeat (first | refine XK.n ?_ | refine XK.a ?_ | refine XK.b ?_))
  (first | refine XK.out rfl rfl rfl ?_ | refine XK.outN rfl rfl rfl ?_)
  rw [mx1]; rfl
theorem restarted_ok (old next : Cl) (m : Mk) (hold : List Int) (hr : next.kind ≠ 4 → 0 ≤ next.role ∧ next.role < hold.length) :
    Does Tryz.prog 106 [clV old, clV next, .agg (mkC m), intsV hold] (.agg (mkC (restM old next m hold))) := by
  refine Does.mk (fun _ => false) TT_ok Tryz.func106 rfl (by kernel_rfl) Tryz.ntmps106 rfl rfl fun E hT hE hN hR => ?_
  have hm := mixO hE
  (repeat (first | refine XK.n ?_ | refine XK.a ?_ | refine XK.b ?_)); refine XK.cond rfl (fun h1 => ?_) (fun h1 => ?_) <;> (try simp at h1)
  · (repeat (first | refine XK.n ?_ | refine XK.a ?_ | refine XK.b ?_))
    (first | refine XK.out rfl rfl rfl ?_ | refine XK.outN rfl rfl rfl ?_)
    rw [restM, if_pos h1]
    rfl
  · obtain ⟨r1, r2⟩ := hr h1
    (repeat (first | refine XK.n ?_ | refine XK.a ?_ | refine XK.b ?_)); refine XK.cond rfl (fun h2 => ?_) (fun h2 => ?_) <;> (try simp at h2)
    · (repeat (first | refine XK.n ?_ | refine XK.a ?_ | refine XK.b ?_))
      (first | refine XK.out rfl rfl rfl ?_ | refine XK.outN rfl rfl rfl ?_)
      rw [restM, if_neg h1, if_pos h2]
      rfl
    · (repeat (first | refine XK.n ?_ | refine XK.a ?_ | refine XK.b ?_))
      (first | refine XK.out rfl rfl rfl ?_ | refine XK.outN rfl rfl rfl ?_)
      rw [restM, if_neg h1, if_neg h2]
      rfl
theorem change1_ok (k : K) (p : Pt) (x : Nat) (hx : x < k.clauses.length) (m : Mk) (ho : dB (clAt k x)) (hd : -1000000 ≤ p.days ∧ p.days ≤ 1000000) (hb : lB m) :
    Does Tryz.prog 101 [.c (.int .i64 x), .agg (mkC m), .rptr (ptC p), .rptr (kC k)] (.agg (mkC (spanM p.days (clAt k x) m))) := by
  obtain ⟨⟨o1, o2⟩, o3, o4⟩ := ho
  obtain ⟨b1, b2⟩ := hb
  obtain ⟨d1, d2⟩ := hd
  refine Does.mk (fun _ => false) TT_ok Tryz.func101 rfl (by kernel_rfl) Tryz.ntmps101 rfl rfl fun E hT hE hN hR => ?_
  have hm := mixO hE
  have fx : k.clauses.getD (x : Int).toNat default = clAt k x := rfl
  (repeat (first | refine XK.n ?_ | refine XK.a ?_ | refine XK.b ?_)); refine XK.cond rfl (fun h1 => ?_) (fun h1 => ?_) <;> (try simp at h1)
  · rw [spanM, if_pos h1]
    (repeat (first | refine XK.n ?_ | refine XK.a ?_ | refine XK.b ?_))
    (first | refine XK.out rfl rfl rfl ?_ | refine XK.outN rfl rfl rfl ?_)
    rw [fx, mx1]; rfl
  · rw [spanM, if_neg h1]
    (repeat (first | refine XK.n ?_ | refine XK.a ?_ | refine XK.b ?_))
    (first | refine XK.out rfl rfl rfl ?_ | refine XK.outN rfl rfl rfl ?_)
    rfl
def replM (new old : Cl) (m : Mk) (hold : List Int) : Mk := if new.waived = true then voidM m else if runsM m = false then m else if new.kind = old.kind then contM old new m else restM old new m hold
theorem change2_ok (k : K) (p : Pt) (hold : List Int) (x : Nat) (hx : x < k.clauses.length) (m : Mk) (ho : dB (clAt k x)) (hn : dB p.new) (hb : lB m) (hr : p.new.kind ≠ 4 → 0 ≤ p.new.role ∧ p.new.role < hold.length) :
    Does Tryz.prog 102 [.c (.int .i64 x), .agg (mkC m), .rptr (ptC p), .rptr (kC k), .rptr [intsV hold]] (.agg (mkC (replM p.new (clAt k x) m hold))) := by
  refine Does.mk (fun _ => false) TT_ok Tryz.func102 rfl (by kernel_rfl) Tryz.ntmps102 rfl rfl fun E hT hE hN hR => ?_
  have hm := mixO hE
  have fx : k.clauses.getD (x : Int).toNat default = clAt k x := rfl
  have hc := continued_ok (clAt k x) p.new m ho hn hb
  have hs := restarted_ok (clAt k x) p.new m hold hr
  (repeat (first | refine XK.n ?_ | refine XK.a ?_ | refine XK.b ?_)); refine XK.cond rfl (fun h1 => ?_) (fun h1 => ?_)
  · rw [replM, if_pos h1]
    (repeat (first | refine XK.n ?_ | refine XK.a ?_ | refine XK.b ?_)); refine XK.region ?_; refine XL.g ?_
    refine XL.callLA hE rfl rfl rfl rfl trivial rfl (voided_ok m) rfl ?_
    refine XL.g ?_; refine XL.fin ?_; (repeat (first | refine XK.n ?_ | refine XK.a ?_ | refine XK.b ?_))
    (first | refine XK.out rfl rfl rfl ?_ | refine XK.outN rfl rfl rfl ?_)
    rfl
  rw [replM, if_neg (by rw [h1]; exact Bool.false_ne_true)]
  (repeat (first | refine XK.n ?_ | refine XK.a ?_ | refine XK.b ?_)); refine XK.region ?_; refine XL.g ?_
  refine XL.callLA hE rfl rfl rfl rfl trivial rfl (mruns_ok m) rfl ?_
  refine XL.g ?_; refine XL.fin ?_; (repeat (first | refine XK.n ?_ | refine XK.a ?_ | refine XK.b ?_))
  (repeat (first | refine XK.n ?_ | refine XK.a ?_ | refine XK.b ?_)); refine XK.cond rfl (fun h2 => ?_) (fun h2 => ?_) <;> (try simp at h2)
  · rw [if_pos h2]
    (repeat (first | refine XK.n ?_ | refine XK.a ?_ | refine XK.b ?_))
    (first | refine XK.out rfl rfl rfl ?_ | refine XK.outN rfl rfl rfl ?_)
    rfl
  rw [if_neg (by rw [h2]; simp)]
  (repeat (first | refine XK.n ?_ | refine XK.a ?_ | refine XK.b ?_))
  rw [fx]
  (repeat (first | refine XK.n ?_ | refine XK.a ?_ | refine XK.b ?_)); refine XK.cond rfl (fun h3 => ?_) (fun h3 => ?_) <;> (try simp at h3)
  · rw [if_pos h3]
    (repeat (first | refine XK.n ?_ | refine XK.a ?_ | refine XK.b ?_)); refine XK.drawn hm ?_; refine XD.goA hT rfl rfl rfl rfl ?_
    rw [fx]
    refine XD.callLA hE rfl rfl rfl rfl trivial rfl (hc) rfl ?_
    refine XD.goA hT rfl rfl rfl rfl ?_; refine XD.fin (by kernel_rfl) ?_; (repeat (first | refine XK.n ?_ | refine XK.a ?_ | refine XK.b ?_))
    (first | refine XK.out rfl rfl rfl ?_ | refine XK.outN rfl rfl rfl ?_)
    rfl
  · rw [if_neg h3]
    (repeat (first | refine XK.n ?_ | refine XK.a ?_ | refine XK.b ?_)); refine XK.drawn hm ?_; refine XD.goA hT rfl rfl rfl rfl ?_
    rw [fx]
    refine XD.callLA hE rfl rfl rfl rfl trivial rfl (hs) rfl ?_
    refine XD.goA hT rfl rfl rfl rfl ?_; refine XD.fin (by kernel_rfl) ?_; (repeat (first | refine XK.n ?_ | refine XK.a ?_ | refine XK.b ?_))
    (first | refine XK.out rfl rfl rfl ?_ | refine XK.outN rfl rfl rfl ?_)
    rfl
def addM (new : Cl) (m : Mk) : Mk := if new.waived = true then voidM m else m
theorem change3_ok (p : Pt) (x : Int) (m : Mk) : Does Tryz.prog 107 [.c (.int .i64 x), .agg (mkC m), .rptr (ptC p)] (.agg (mkC (addM p.new m))) := by
  refine Does.mk (fun _ => false) TT_ok Tryz.func107 rfl (by kernel_rfl) Tryz.ntmps107 rfl rfl fun E hT hE hN hR => ?_
  have hm := mixO hE
  (repeat (first | refine XK.n ?_ | refine XK.a ?_ | refine XK.b ?_)); refine XK.cond rfl (fun h1 => ?_) (fun h1 => ?_)
  · rw [addM, if_pos h1]
    (repeat (first | refine XK.n ?_ | refine XK.a ?_ | refine XK.b ?_)); refine XK.region ?_; refine XL.g ?_
    refine XL.callLA hE rfl rfl rfl rfl trivial rfl (voided_ok m) rfl ?_
    refine XL.g ?_; refine XL.fin ?_; (repeat (first | refine XK.n ?_ | refine XK.a ?_ | refine XK.b ?_))
    (first | refine XK.out rfl rfl rfl ?_ | refine XK.outN rfl rfl rfl ?_)
    rfl
  · rw [addM, if_neg (by rw [h1]; exact Bool.false_ne_true)]
    (repeat (first | refine XK.n ?_ | refine XK.a ?_ | refine XK.b ?_))
    (first | refine XK.out rfl rfl rfl ?_ | refine XK.outN rfl rfl rfl ?_)
    rfl
theorem change4_ok (x : Int) (m : Mk) : Does Tryz.prog 108 [.c (.int .i64 x), .agg (mkC m)] (.agg (mkC (voidM m))) := by
  refine Does.mk (fun _ => false) TT_ok Tryz.func108 rfl (by kernel_rfl) Tryz.ntmps108 rfl rfl fun E hT hE hN hR => ?_
  have hm := mixO hE
  (repeat (first | refine XK.n ?_ | refine XK.a ?_ | refine XK.b ?_)); refine XK.region ?_; refine XL.g ?_
  refine XL.callLA hE rfl rfl rfl rfl trivial rfl (voided_ok m) rfl ?_
  refine XL.g ?_; refine XL.fin ?_; (repeat (first | refine XK.n ?_ | refine XK.a ?_ | refine XK.b ?_))
  (first | refine XK.out rfl rfl rfl ?_ | refine XK.outN rfl rfl rfl ?_)
  rfl
end Go.Proofs.YtlhmgphgnedlkaaGreat
end
section
/- Contracts: package migrate: conditions that hold; waiting clauses. -/
namespace Go.Proofs.YtlhmgphgnedlkaaGreat
open Go.Eng
set_option maxRecDepth 10000
def mRow (n : Nat) (mk : Nat → Mk) : Ob := .vec 56 5 0 n (fun i => mkC (mk i))
def stO (day : Int) (hs : List Int) (us : List Bool) (q : Nat) : Ob := .cells 41 [.c (.int .i64 day), intsV hs, boolsV us, .vec q 0]
theorem mholds_ok (n : Nat) (mk : Nat → Mk) (c : Cnd) (hc : 0 ≤ c.clause ∧ c.clause < n) : DoesM Tryz.prog 110 [.vec 0 0, .agg (cndC c)] [mRow n mk] (.c (.bool (condHB mk c))) [mRow n mk] := by
  obtain ⟨h1, h2⟩ := hc
  refine DoesM.mk (fun _ => false) 100 TT_ok Tryz.func110 rfl (by kernel_rfl) Tryz.ntmps110 rfl rfl rfl fun E hT hE hN hR => ?_
  have hm := mixO hE
  (repeat (first | refine XK.n ?_ | refine XK.a ?_ | refine XK.b ?_)); refine XK.cond rfl (fun c1 => ?_) (fun c1 => ?_) <;> (try simp at c1)
  · (repeat (first | refine XK.n ?_ | refine XK.a ?_ | refine XK.b ?_))
    (first | refine XK.outR [0] hN rfl rfl rfl ?_ rfl rfl ?_ | refine XK.outRN [0] hN rfl rfl rfl ?_ rfl rfl ?_)
    · (repeat' (first | exact rfl | exact AvIs.refl _ | exact trivial | exact fun _ _ => rfl | exact fun _ _ => ⟨rfl, AvIs.refl _⟩ | refine ⟨?_, ?_⟩))
    · rw [condHB, if_pos c1]; exact AvIs.refl _
  · (repeat (first | refine XK.n ?_ | refine XK.a ?_ | refine XK.b ?_)); refine XK.cond rfl (fun c2 => ?_) (fun c2 => ?_) <;> (try simp at c2)
    · (repeat (first | refine XK.n ?_ | refine XK.a ?_ | refine XK.b ?_))
      (first | refine XK.outR [0] hN rfl rfl rfl ?_ rfl rfl ?_ | refine XK.outRN [0] hN rfl rfl rfl ?_ rfl rfl ?_)
      · (repeat' (first | exact rfl | exact AvIs.refl _ | exact trivial | exact fun _ _ => rfl | exact fun _ _ => ⟨rfl, AvIs.refl _⟩ | refine ⟨?_, ?_⟩))
      · rw [condHB, if_neg c1, if_pos c2]; exact AvIs.refl _
    · (repeat (first | refine XK.n ?_ | refine XK.a ?_ | refine XK.b ?_)); refine XK.cond rfl (fun c3 => ?_) (fun c3 => ?_) <;> (try simp at c3)
      · (repeat (first | refine XK.n ?_ | refine XK.a ?_ | refine XK.b ?_))
        (first | refine XK.outR [0] hN rfl rfl rfl ?_ rfl rfl ?_ | refine XK.outRN [0] hN rfl rfl rfl ?_ rfl rfl ?_)
        · (repeat' (first | exact rfl | exact AvIs.refl _ | exact trivial | exact fun _ _ => rfl | exact fun _ _ => ⟨rfl, AvIs.refl _⟩ | refine ⟨?_, ?_⟩))
        · rw [condHB, if_neg c1, if_neg c2, if_pos c3]; exact AvIs.refl _
      · (repeat (first | refine XK.n ?_ | refine XK.a ?_ | refine XK.b ?_)); refine XK.cond rfl (fun c4 => ?_) (fun c4 => ?_) <;> (try simp at c4)
        · (repeat (first | refine XK.n ?_ | refine XK.a ?_ | refine XK.b ?_))
          (first | refine XK.outR [0] hN rfl rfl rfl ?_ rfl rfl ?_ | refine XK.outRN [0] hN rfl rfl rfl ?_ rfl rfl ?_)
          · (repeat' (first | exact rfl | exact AvIs.refl _ | exact trivial | exact fun _ _ => rfl | exact fun _ _ => ⟨rfl, AvIs.refl _⟩ | refine ⟨?_, ?_⟩))
          · rw [condHB, if_neg c1, if_neg c2, if_neg c3, if_pos c4]; exact AvIs.refl _
        · (repeat (first | refine XK.n ?_ | refine XK.a ?_ | refine XK.b ?_))
          (first | refine XK.outR [0] hN rfl rfl rfl ?_ rfl rfl ?_ | refine XK.outRN [0] hN rfl rfl rfl ?_ rfl rfl ?_)
          · (repeat' (first | exact rfl | exact AvIs.refl _ | exact trivial | exact fun _ _ => rfl | exact fun _ _ => ⟨rfl, AvIs.refl _⟩ | refine ⟨?_, ?_⟩))
          · rw [condHB, if_neg c1, if_neg c2, if_neg c3, if_neg c4]; exact AvIs.refl _
theorem waits_ok (day : Int) (hs : List Int) (us : List Bool) (n : Nat) (mk : Nat → Mk) (c : Cnd) (hc : 0 ≤ c.clause ∧ c.clause < n) : DoesM Tryz.prog 109 [.agg (cndC c), .ptr 0 0] [stO day hs us 1, mRow n mk] (.c (.bool (!condHB mk c))) [stO day hs us 1, mRow n mk] := by
  have hh := mholds_ok n mk c hc
  refine DoesM.mk (fun _ => false) 100 TT_ok Tryz.func109 rfl (by kernel_rfl) Tryz.ntmps109 rfl rfl rfl fun E hT hE hN hR => ?_
  have hm := mixO hE
  (repeat (first | refine XK.n ?_ | refine XK.a ?_ | refine XK.b ?_)); refine XK.region ?_; refine XL.g ?_
  refine XL.callMA [1] hE rfl rfl rfl rfl trivial (hh) rfl rfl rfl rfl rfl ?_
  refine XL.g ?_; refine XL.fin ?_; (repeat (first | refine XK.n ?_ | refine XK.a ?_ | refine XK.b ?_))
  (first | refine XK.outR [0, 1] hN rfl rfl rfl ?_ rfl rfl ?_ | refine XK.outRN [0, 1] hN rfl rfl rfl ?_ rfl rfl ?_)
  · (repeat' (first | exact rfl | exact AvIs.refl _ | exact trivial | exact fun _ _ => rfl | exact fun _ _ => ⟨rfl, AvIs.refl _⟩ | refine ⟨?_, ?_⟩))
  · (repeat' (first | exact rfl | exact AvIs.refl _ | exact trivial | exact fun _ _ => rfl | exact fun _ _ => ⟨rfl, AvIs.refl _⟩ | refine ⟨?_, ?_⟩))
def waitAt (mk : Nat → Mk) (l : List Cnd) : Int := match l.findIdx? (fun c => !condHB mk c) with | some i => i | none => -1
theorem waitAt_yes {mk : Nat → Mk} {l : List Cnd} {i : Nat} (hi : i < l.length) (hj : ∀ j, j < i → condHB mk (l.getD j default) = true) (h : condHB mk (l.getD i default) = false) : waitAt mk l = i := by
  have : l.findIdx? (fun c => !condHB mk c) = some i := by
    rw [List.findIdx?_eq_some_iff_getElem]
    refine ⟨hi, ?_, fun j hj' => ?_⟩
    · have e : l.getD i default = l[i] := by simp [List.getD, hi]
      rw [← e, h]; rfl
    · have hjl : j < l.length := by omega
      have e : l.getD j default = l[j] := by simp [List.getD, hjl]
      rw [← e, hj j hj']; simp
  rw [waitAt, this]
theorem waitAt_no {mk : Nat → Mk} {l : List Cnd} (hj : ∀ j, j < l.length → condHB mk (l.getD j default) = true) : waitAt mk l = -1 := by
  have : l.findIdx? (fun c => !condHB mk c) = none := by
    rw [List.findIdx?_eq_none_iff]
    intro x hx
    obtain ⟨j, hjl, rfl⟩ := List.getElem_of_mem hx
    have e : l.getD j default = l[j] := by simp [List.getD, hjl]
    rw [← e, hj j hjl]; rfl
  rw [waitAt, this]
theorem index_ok (day : Int) (hs : List Int) (us : List Bool) (n : Nat) (mk : Nat → Mk) (l : List Cnd) (hl : l.length ≤ 1000000) (hc : ∀ i, i < l.length → 0 ≤ (l.getD i default).clause ∧ (l.getD i default).clause < n) :
    DoesM Tryz.prog 131 [cndsV l, .fn (.func 109) [] [.ptr 0 0]] [stO day hs us 1, mRow n mk] (.c (.int .i64 (waitAt mk l))) [stO day hs us 1, mRow n mk] := by
  refine DoesM.mk (fun _ => false) 100 TT_ok Tryz.func131 rfl (by kernel_rfl) Tryz.ntmps131 rfl rfl rfl fun E hT hE hN hR => ?_
  have hm := mixO hE
  (repeat (first | refine XK.n ?_ | refine XK.a ?_ | refine XK.b ?_))
  refine XK.loop (ι := Nat) (fun i => ST.of [(0, cndsV l), (1, .fn (.func 109) [] [.ptr 0 0]), (7, .c (.int .i64 l.length)), (8, .c (.int .i64 i))] [(0, stO day hs us 1), (1, mRow n mk)] 1000 19 (fun _ => false))
    (fun i => i ≤ l.length ∧ ∀ j, j < i → condHB mk (l.getD j default) = true) (fun i => l.length - i) 0 ⟨Nat.zero_le _, fun j hj => absurd hj (Nat.not_lt_zero _)⟩
    (Weak.of hN rfl rfl rfl frI frI) fun i hi => ?_
  obtain ⟨hi, hj⟩ := hi
  (repeat (first | refine XK.n ?_ | refine XK.a ?_ | refine XK.b ?_)); refine XK.cond rfl (fun hlt => ?_) (fun hlt => ?_) <;> (try simp at hlt)
  · have fx : l.getD (i : Int).toNat default = l.getD i default := rfl
    have hw := waits_ok day hs us n mk (l.getD i default) (hc i hlt)
    (repeat (first | refine XK.n ?_ | refine XK.a ?_ | refine XK.b ?_))
    (repeat (first | refine XK.n ?_ | refine XK.a ?_ | refine XK.b ?_)); refine XK.region ?_; refine XL.g ?_
    rw [fx]
    refine XL.callMA [0, 1] hE rfl rfl rfl rfl trivial (hw) rfl rfl rfl rfl rfl ?_
    refine XL.g ?_; refine XL.fin ?_; (repeat (first | refine XK.n ?_ | refine XK.a ?_ | refine XK.b ?_))
    have hwy := waitAt_yes (mk := mk) hlt hj
    have hcn : ∀ b, condHB mk (l.getD i default) = b → ∀ j, b = true → j < i + 1 → condHB mk (l.getD j default) = true := fun b hb j e hj' => by
      by_cases e' : j = i
      · subst e'; rw [hb, e]
      · exact hj j (by omega)
    generalize condHB mk (l.getD i default) = b at *
    (repeat (first | refine XK.n ?_ | refine XK.a ?_ | refine XK.b ?_)); refine XK.cond rfl (fun h1 => ?_) (fun h1 => ?_)
    · have h1 : b = false := by simpa using h1
      (repeat (first | refine XK.n ?_ | refine XK.a ?_ | refine XK.b ?_))
      (first | refine XK.outR [0, 1] hN rfl rfl rfl ?_ rfl rfl ?_ | refine XK.outRN [0, 1] hN rfl rfl rfl ?_ rfl rfl ?_)
      · (repeat' (first | exact rfl | exact AvIs.refl _ | exact trivial | exact fun _ _ => rfl | exact fun _ _ => ⟨rfl, AvIs.refl _⟩ | refine ⟨?_, ?_⟩))
      · rw [hwy h1]; exact AvIs.refl _
    · have h1 : b = true := by simpa using h1
      (repeat (first | refine XK.n ?_ | refine XK.a ?_ | refine XK.b ?_))
      exact XK.inv ⟨i + 1, ⟨hlt, fun j hj' => hcn b rfl j h1 hj'⟩, (Weak.of hN rfl rfl rfl frI frI), by omega⟩
  · (repeat (first | refine XK.n ?_ | refine XK.a ?_ | refine XK.b ?_))
    (first | refine XK.outR [0, 1] hN rfl rfl rfl ?_ rfl rfl ?_ | refine XK.outRN [0, 1] hN rfl rfl rfl ?_ rfl rfl ?_)
    · (repeat' (first | exact rfl | exact AvIs.refl _ | exact trivial | exact fun _ _ => rfl | exact fun _ _ => ⟨rfl, AvIs.refl _⟩ | refine ⟨?_, ?_⟩))
    · rw [waitAt_no fun j hj' => hj j (by omega)]; exact AvIs.refl _
theorem waitAt_neg (mk : Nat → Mk) (l : List Cnd) : decide (0 ≤ waitAt mk l) = !(l.all (condHB mk)) := by
  by_cases h : l.all (condHB mk) = true
  · rw [waitAt_no fun j hj => List.all_eq_true.1 h _ (getD_memW hj), h]
    rfl
  · unfold waitAt
    cases hf : l.findIdx? (fun c => !condHB mk c) with
    | some i =>
      have : l.all (condHB mk) = false := by simpa using h
      rw [this]
      simp only [decide_eq_true_eq, Bool.not_false]
      omega
    | none =>
      rw [List.findIdx?_eq_none_iff] at hf
      exact absurd (List.all_eq_true.2 fun x hx => by have := hf x hx; simpa using this) h
theorem contains_ok (day : Int) (hs : List Int) (us : List Bool) (n : Nat) (mk : Nat → Mk) (l : List Cnd) (hl : l.length ≤ 1000000) (hc : ∀ i, i < l.length → 0 ≤ (l.getD i default).clause ∧ (l.getD i default).clause < n) :
    DoesM Tryz.prog 111 [cndsV l, .fn (.func 109) [] [.ptr 0 0]] [stO day hs us 1, mRow n mk] (.c (.bool (!(l.all (condHB mk))))) [stO day hs us 1, mRow n mk] := by
  have hi := index_ok day hs us n mk l hl hc
  have hn := waitAt_neg mk l
  generalize waitAt mk l = z at *
  refine DoesM.mk (fun _ => false) 100 TT_ok Tryz.func111 rfl (by kernel_rfl) Tryz.ntmps111 rfl rfl rfl fun E hT hE hN hR => ?_
  have hm := mixO hE
  (repeat (first | refine XK.n ?_ | refine XK.a ?_ | refine XK.b ?_)); refine XK.region ?_; refine XL.g ?_
  refine XL.callMA [0, 1] hE rfl rfl rfl rfl trivial (hi) rfl rfl rfl rfl rfl ?_
  refine XL.g ?_; refine XL.fin ?_; (repeat (first | refine XK.n ?_ | refine XK.a ?_ | refine XK.b ?_))
  (first | refine XK.outR [0, 1] hN rfl rfl rfl ?_ rfl rfl ?_ | refine XK.outRN [0, 1] hN rfl rfl rfl ?_ rfl rfl ?_)
  · (repeat' (first | exact rfl | exact AvIs.refl _ | exact trivial | exact fun _ _ => rfl | exact fun _ _ => ⟨rfl, AvIs.refl _⟩ | refine ⟨?_, ?_⟩))
  · rw [← hn]; exact AvIs.refl _
end Go.Proofs.YtlhmgphgnedlkaaGreat
end
section
/- Contracts: package migrate: start. -/
namespace Go.Proofs.YtlhmgphgnedlkaaGreat
open Go.Eng
set_option maxRecDepth 10000
theorem mstart_ok (k : K) (hk : KFacts k) (day : Int) (hs : List Int) (us : List Bool) (hh : hs.length = k.holders.length) (w : Wk) (hw : ∀ j, w.hold j = hs.getD j default) :
    DoesM Tryz.prog 70 [kV k, .agg [.c (.int .i64 day), intsV hs, boolsV us, .vec 0 0]] [mRow k.clauses.length w.mark] (.tup []) [mRow k.clauses.length (startW k w).mark] := by
  refine DoesM.mk (fun _ => false) 100 TT_ok Tryz.func70 rfl (by kernel_rfl) Tryz.ntmps70 rfl rfl rfl fun E hT hE hN hR => ?_
  have hm := mixO hE
  have hnc := hk.nc
  (repeat (first | refine XK.n ?_ | refine XK.a ?_ | refine XK.b ?_))
  refine XK.loop (ι := Nat × Wk × Bool) (fun q => ST.of [(2, .ptr 102 0), (3, .ptr 103 0), (4, .c (.bool q.2.2))] [(0, mRow k.clauses.length q.2.1.mark), (102, .cells 27 (kC k)), (103, stO day hs us 0)] 1000 57 (fun _ => false))
    (fun q => (∀ j, q.2.1.hold j = hs.getD j default) ∧ (q.2.2 = true → startN k q.1 q.2.1 = startW k w ∧ idleN k q.2.1.mark < q.1) ∧ (q.2.2 = false → q.2.1 = startW k w)) (fun q => if q.2.2 = true then q.1 + 1 else 0) (idleN k w.mark + 1, w, true)
    ⟨hw, fun _ => ⟨rfl, Nat.lt_succ_self _⟩, fun h => nomatch h⟩
    (Weak.of hN rfl rfl rfl frI frI) fun q hq => ?_
  obtain ⟨f, w1, b⟩ := q
  obtain ⟨g0, g1, g2⟩ := hq
  dsimp only at g0 g1 g2
  dsimp only
  (repeat (first | refine XK.n ?_ | refine XK.a ?_ | refine XK.b ?_)); refine XK.cond rfl (fun hb => ?_) (fun hb => ?_)
  · have hb : b = true := hb
    subst hb
    obtain ⟨g1, g3⟩ := g1 rfl
    clear g2
    obtain ⟨f, rfl⟩ : ∃ f', f = f' + 1 := ⟨f - 1, by omega⟩
    (repeat (first | refine XK.n ?_ | refine XK.a ?_ | refine XK.b ?_))
    refine XK.loop (ι := Nat) (fun i => ST.of [(2, .ptr 102 0), (3, .ptr 103 0), (4, .c (.bool (passTo k w1 i).2)), (10, clsV k.clauses), (11, .c (.int .i64 k.clauses.length)), (12, .c (.int .i64 i))] [(0, mRow k.clauses.length (passTo k w1 i).1.mark), (102, .cells 27 (kC k)), (103, stO day hs us 0)] 2000 57 (fun _ => false))
      (fun i => i ≤ k.clauses.length) (fun i => k.clauses.length - i) 0 (Nat.zero_le _)
      (Weak.of hN rfl rfl rfl frI frI) fun i hi => ?_
    (repeat (first | refine XK.n ?_ | refine XK.a ?_ | refine XK.b ?_)); refine XK.cond rfl (fun hlt => ?_) (fun hlt => ?_) <;> (try simp at hlt)
    · have fc : k.clauses.getD (i : Int).toNat default = clAt k i := rfl
      have hkf := kindW (hk.clB hlt).2.2.1
      have hp : passTo k w1 (i + 1) = if rdyB k (passTo k w1 i).1.mark i = true then ((passTo k w1 i).1.upM i (liveM k (passTo k w1 i).1.hold i), true) else passTo k w1 i := rfl
      have hph : ∀ j, (passTo k w1 i).1.hold j = hs.getD j default := fun j => by rw [pass_hold hi]; exact g0 j
      generalize passTo k w1 i = p at *
      obtain ⟨w2, b2⟩ := p
      dsimp only at hp hph
      dsimp only
      (repeat (first | refine XK.n ?_ | refine XK.a ?_ | refine XK.b ?_))
      have hcb := hk.clB hlt
      have hct := contains_ok day hs us k.clauses.length w2.mark (clAt k i).start (Nat.le_trans hcb.2.2.2.1 (by decide)) (fun j hj => by
        have := hcb.2.2.2.2.1 _ (getD_memW hj)
        simp only [condB, Bool.not_eq_true', Bool.or_eq_false_iff, decide_eq_false_iff_not] at this
        omega)
      have hrd : rdyB k w2.mark i = if ((w2.mark i).status != 0 || (clAt k i).waived) = true then false else (clAt k i).start.all (condHB w2.mark) := rfl
      generalize (clAt k i).start.all (condHB w2.mark) = al at *
      refine XK.weak (st' := ST.of [(2, .ptr 102 0), (3, .ptr 103 0), (4, .c (.bool b2)), (5, .c (.int .i64 i)), (6, .ptr 2063 0), (7, .fn (.func 109) [] [.ptr 103 0]), (10, clsV k.clauses), (11, .c (.int .i64 k.clauses.length)), (12, .c (.int .i64 i))]
        [(0, mRow k.clauses.length w2.mark), (102, .cells 27 (kC k)), (103, stO day hs us 0), (2063, .cells 48 (clC (clAt k i)))] 3000 57 (fun _ => false)) (Weak.of hN rfl rfl rfl frI frI) ?_
      clear hcb
      (repeat (first | refine XK.n ?_ | refine XK.a ?_ | refine XK.b ?_)); refine XK.region ?_; refine XL.g ?_
      refine XL.callMG [103, 0] (.c (.bool false)) hE rfl rfl rfl rfl rfl rfl (fun hgd => ?_) rfl (fun hgd => ?_) (fun hgd => hct) rfl ?_ rfl (fun hgd => ?_) rfl rfl rfl (fun hgd => ?_)
      · have hX : ((w2.mark i).status != 0 || (clAt k i).waived) = true := by
          have : (!((w2.mark (i : Int).toNat).status != 0 || (clAt k i).waived)) = false := hgd
          rwa [Bool.not_eq_false'] at this
        rw [if_pos hX] at hrd
        rw [if_neg (by rw [hrd]; exact Bool.false_ne_true)] at hp
        refine XL.g ?_; refine XL.fin ?_; (repeat (first | refine XK.n ?_ | refine XK.a ?_ | refine XK.b ?_))
        (repeat (first | refine XK.n ?_ | refine XK.a ?_ | refine XK.b ?_)); refine XK.cond rfl (fun h1 => ?_) (fun h1 => ?_)
        · (repeat (first | refine XK.n ?_ | refine XK.a ?_ | refine XK.b ?_))
          refine XK.inv ⟨i + 1, hlt, ?_, by omega⟩
          rw [hp]
          exact (Weak.of hN rfl rfl rfl frI frI)
        · exfalso
          rw [show (i : Int).toNat = i from rfl, hX] at h1
          simp at h1
      · simp only [AllP, impG, hgd]; simp
      · (repeat' (first | exact rfl | exact AvIs.refl _ | exact trivial | exact fun _ _ => rfl | exact fun _ _ => ⟨rfl, AvIs.refl _⟩ | refine ⟨?_, ?_⟩))
      · (repeat' (first | exact rfl | exact AvIs.refl _ | exact trivial | exact fun _ _ => rfl | exact fun _ _ => ⟨rfl, AvIs.refl _⟩ | refine ⟨?_, ?_⟩))
      · have hX : ((w2.mark i).status != 0 || (clAt k i).waived) = false := by
          have : (!((w2.mark (i : Int).toNat).status != 0 || (clAt k i).waived)) = true := hgd
          rwa [Bool.not_eq_true'] at this
        rw [if_neg (by rw [hX]; exact Bool.false_ne_true)] at hrd
        rw [hrd] at hp
        refine XL.g ?_; refine XL.fin ?_; (repeat (first | refine XK.n ?_ | refine XK.a ?_ | refine XK.b ?_))
        (repeat (first | refine XK.n ?_ | refine XK.a ?_ | refine XK.b ?_)); refine XK.cond rfl (fun h1 => ?_) (fun h1 => ?_)
        · have h1 : al = false := by
            rw [show (i : Int).toNat = i from rfl, hX] at h1
            simpa using h1
          rw [if_neg (by rw [h1]; exact Bool.false_ne_true)] at hp
          (repeat (first | refine XK.n ?_ | refine XK.a ?_ | refine XK.b ?_))
          refine XK.inv ⟨i + 1, hlt, ?_, by omega⟩
          rw [hp]
          exact (Weak.of hN rfl rfl rfl frI frI)
        · have h1 : al = true := by
            rw [show (i : Int).toNat = i from rfl, hX] at h1
            simpa using h1
          rw [if_pos h1] at hp
          (repeat (first | refine XK.n ?_ | refine XK.a ?_ | refine XK.b ?_)); refine XK.cond rfl (fun h3 => ?_) (fun h3 => ?_) <;> (try simp at h3)
          · have hro : 0 ≤ (clAt k i).role ∧ (clAt k i).role < k.holders.length := by
              rcases hkf with h | h
              · exact absurd h.1 h3
              · exact h.1
            have e : liveM k w2.hold i = ⟨1, (clAt k i).after, 0, hs.getD (clAt k i).role.toNat default, false⟩ := by
              unfold liveM; rw [if_pos h3, hph]
            rw [e] at hp
            rw [← hh] at hro
            (repeat (first | refine XK.n ?_ | refine XK.a ?_ | refine XK.b ?_))
            refine XK.inv ⟨i + 1, hlt, ?_, by omega⟩
            rw [hp]
            exact (Weak.of hN rfl rfl rfl frI (by (repeat' (first | exact rfl | exact AvIs.refl _ | exact trivial | exact fun _ _ => rfl | exact fun _ _ => ⟨rfl, AvIs.refl _⟩ | exact fun _ hi => absurd hi (Nat.not_lt_zero _) | (intro i hi; cases Nat.lt_one_iff.1 hi; rfl) | (intro j hj; by_cases hji : j = (i); (· subst hji; simp [setRowF, setL, mkC, Wk.upM]; done); (· simp [setRowF, beq_false hji, Wk.upM, hji, lt_succ_ne hji]; done)) | refine ⟨?_, ?_⟩))))
          · have e : liveM k w2.hold i = ⟨1, (clAt k i).after, 0, -1, false⟩ := by
              unfold liveM; rw [if_neg (by simpa using h3)]
            rw [e] at hp
            (repeat (first | refine XK.n ?_ | refine XK.a ?_ | refine XK.b ?_))
            refine XK.inv ⟨i + 1, hlt, ?_, by omega⟩
            rw [hp]
            exact (Weak.of hN rfl rfl rfl frI (by (repeat' (first | exact rfl | exact AvIs.refl _ | exact trivial | exact fun _ _ => rfl | exact fun _ _ => ⟨rfl, AvIs.refl _⟩ | exact fun _ hi => absurd hi (Nat.not_lt_zero _) | (intro i hi; cases Nat.lt_one_iff.1 hi; rfl) | (intro j hj; by_cases hji : j = (i); (· subst hji; simp [setRowF, setL, mkC, Wk.upM]; done); (· simp [setRowF, beq_false hji, Wk.upM, hji, lt_succ_ne hji]; done)) | refine ⟨?_, ?_⟩))))
    · have hie : i = k.clauses.length := by omega
      subst hie
      have hl := fun h => pass_less (k := k) (w := w1) k.clauses.length (Nat.le_refl _) h
      have hn := fun h => pass_none (k := k) (w := w1) k.clauses.length h
      have hph : ∀ j, (passTo k w1 k.clauses.length).1.hold j = hs.getD j default := fun j => by rw [pass_hold (Nat.le_refl _)]; exact g0 j
      rw [startN] at g1
      generalize passTo k w1 k.clauses.length = p at *
      obtain ⟨w2, b2⟩ := p
      dsimp only at hl hn g1 hph
      dsimp only
      (repeat (first | refine XK.n ?_ | refine XK.a ?_ | refine XK.b ?_))
      refine XK.inv ⟨(f, w2, b2), ⟨hph, fun h => ?_, fun h => ?_⟩, (Weak.of hN rfl rfl rfl frI frI), ?_⟩
      · have h : b2 = true := h
        rw [if_pos h] at g1
        have := hl h
        exact ⟨g1, by show idleN k w2.mark < f; omega⟩
      · have h : b2 = false := h
        rw [if_neg (by rw [h]; simp)] at g1
        have := congrArg Prod.fst (hn h).1
        show w2 = _
        rw [← g1]
        exact this
      · dsimp only
        cases b2 <;> simp
  · have hb : b = false := hb
    subst hb
    have g2 := g2 rfl
    subst g2
    (repeat (first | refine XK.n ?_ | refine XK.a ?_ | refine XK.b ?_))
    (first | refine XK.outR [0] hN rfl rfl rfl ?_ rfl rfl ?_ | refine XK.outRN [0] hN rfl rfl rfl ?_ rfl rfl ?_)
    · (repeat' (first | exact rfl | exact AvIs.refl _ | exact trivial | exact fun _ _ => rfl | exact fun _ _ => ⟨rfl, AvIs.refl _⟩ | refine ⟨?_, ?_⟩))
    · (repeat' (first | exact rfl | exact AvIs.refl _ | exact trivial | exact fun _ _ => rfl | exact fun _ _ => ⟨rfl, AvIs.refl _⟩ | refine ⟨?_, ?_⟩))
end Go.Proofs.YtlhmgphgnedlkaaGreat
end
section
/- Contracts: package migrate: copies of states. -/
namespace Go.Proofs.YtlhmgphgnedlkaaGreat
open Go.Eng
set_option maxRecDepth 10000
def hRow (l : List Int) : Ob := .vec 3 1 0 l.length (fun i => [.c (.int .i64 (l.getD i default))])
def bRow (l : List Bool) : Ob := .vec 4 1 0 l.length (fun i => [.c (.bool (l.getD i default))])
def padM (l : List Mk) (i : Nat) : Mk := if i < l.length then l.getD i default else idleMk
theorem pad_row (l : List Mk) (q : Nat) (hq : l.length ≤ q) (i : Nat) : mkC (if i < q + 1 then padM l i else default) = setRowF (fun i => mkC (if i < q then padM l i else default)) q 0 (mkC idleMk) i := by
  unfold setRowF
  by_cases h : i = q
  · subst h
    rw [show Nat.beq i i = true by simp, if_pos (Nat.lt_succ_self i), padM, if_neg (by omega)]
    rfl
  · rw [beq_false h]
    by_cases h2 : i < q
    · rw [if_pos (by omega)]; show _ = mkC (if i < q then _ else _); rw [if_pos h2]
    · rw [if_neg (by omega)]; show _ = mkC (if i < q then _ else _); rw [if_neg h2]
theorem copiedState_ok (s : St) (n : Nat) (hn : s.marks.length ≤ n) (hn2 : n ≤ 1000000) (h1 : s.holders.length ≤ 1000000) (h2 : s.used.length ≤ 1000000) :
    DoesM Tryz.prog 68 [stV s, .c (.int .i64 n)] [] (.agg [.c (.int .i64 s.day), .vec 0 0, .vec 1 0, .vec 2 0]) [hRow s.holders, bRow s.used, mRow n (padM s.marks), .cells 41 [.c (.int .i64 s.day), .vec 0 0, .vec 1 0, .vec 2 0]] := by
  refine DoesM.mk (fun d => Nat.beq d 13 || Nat.beq d 23 || Nat.beq d 31) 100 TT_ok Tryz.func68 rfl (by kernel_rfl) Tryz.ntmps68 rfl rfl rfl fun E hT hE hN hR => ?_
  have hm := mixO hE
  (repeat (first | refine XK.n ?_ | refine XK.a ?_ | refine XK.b ?_))
  refine XK.weak (st' := ST.of [(1, .c (.int .i64 n)), (4, .ptr 104 0), (5, .ptr 154 0), (6, .c (.int .i64 s.marks.length))]
    [(104, .cells 41 [.c (.int .i64 0), .c (.slice none 0 0), .c (.slice none 0 0), .c (.slice none 0 0)]), (154, .cells 41 [.c (.int .i64 s.day), .vec 211 0, .vec 319 0, .vec 425 0]), (211, hRow s.holders), (319, bRow s.used), (425, mRow n (fun i => if i < s.marks.length then s.marks.getD i default else default))] 1000 49 (fun d => Nat.beq d 13 || Nat.beq d 23 || Nat.beq d 31))
    (Weak.of hN rfl rfl rfl frI ⟨frI, frI, ⟨⟨rfl, rfl, rfl⟩, rfl, fun i hi => ?x1⟩, ⟨⟨rfl, rfl, rfl⟩, rfl, fun i hi => ?x2⟩, ⟨⟨rfl, rfl, rfl⟩, rfl, fun i hi => ?x3⟩⟩) ?_
  · exact (cpF_lt (m := s.holders.length) (f := fun i => [.c (.int .i64 (s.holders.getD i default))]) hi).symm
  · exact (cpF_lt (m := s.used.length) (f := fun i => [.c (.bool (s.used.getD i default))]) hi).symm
  · by_cases h : i < s.marks.length
    · have := cpF_lt (m := s.marks.length) (f := fun i => mkC (s.marks.getD i default)) (f0 := fun x => List.map AV.c ty56e.zero) h
      exact (this.trans (by show mkC _ = mkC (if i < s.marks.length then _ else _); rw [if_pos h])).symm
    · have := cpF_ge (m := s.marks.length) (f := fun i => mkC (s.marks.getD i default)) (f0 := fun x => List.map AV.c ty56e.zero) h
      exact (this.trans (by show _ = mkC (if i < s.marks.length then _ else _); rw [if_neg h]; rfl)).symm
  have hl := idleM_ok
  refine XK.loop (ι := Nat) (fun q => ST.of [(1, .c (.int .i64 n)), (4, .ptr 104 0), (5, .ptr 154 0), (6, .c (.int .i64 q))]
    [(104, .cells 41 [.c (.int .i64 0), .c (.slice none 0 0), .c (.slice none 0 0), .c (.slice none 0 0)]), (154, .cells 41 [.c (.int .i64 s.day), .vec 211 0, .vec 319 0, .vec 425 0]), (211, hRow s.holders), (319, bRow s.used), (425, mRow n (fun i => if i < q then padM s.marks i else default))] 2000 49 (fun d => Nat.beq d 13 || Nat.beq d 23 || Nat.beq d 31))
    (fun q => s.marks.length ≤ q ∧ q ≤ n) (fun q => n - q) s.marks.length ⟨Nat.le_refl _, hn⟩
    (Weak.of hN rfl rfl rfl frI ⟨frI, frI, frI, frI, ⟨rfl, rfl, rfl⟩, rfl, fun i hi => congrArg mkC (by
      by_cases h : i < s.marks.length
      · show (if i < s.marks.length then _ else _) = (if i < s.marks.length then _ else _)
        rw [if_pos h, if_pos h, padM, if_pos h]
      · show (if i < s.marks.length then _ else _) = (if i < s.marks.length then _ else _)
        rw [if_neg h, if_neg h])⟩) fun q hq => ?_
  obtain ⟨hq0, hq⟩ := hq
  (repeat (first | refine XK.n ?_ | refine XK.a ?_ | refine XK.b ?_)); refine XK.cond rfl (fun hlt => ?_) (fun hlt => ?_) <;> (try simp at hlt)
  · (repeat (first | refine XK.n ?_ | refine XK.a ?_ | refine XK.b ?_)); refine XK.drawn hm ?_; refine XD.goA hT rfl rfl rfl rfl ?_
    refine XD.callLA hE rfl rfl rfl rfl trivial rfl (hl) rfl ?_
    refine XD.goA hT rfl rfl rfl rfl ?_; refine XD.fin (by kernel_rfl) ?_; (repeat (first | refine XK.n ?_ | refine XK.a ?_ | refine XK.b ?_))
    exact XK.inv ⟨q + 1, ⟨by omega, hlt⟩, Weak.of hN rfl rfl rfl frI ⟨frI, frI, frI, frI, ⟨rfl, rfl, rfl⟩, rfl, fun i hi => pad_row s.marks q hq0 i⟩, by omega⟩
  · have hqn : q = n := by omega
    subst hqn
    (repeat (first | refine XK.n ?_ | refine XK.a ?_ | refine XK.b ?_))
    (first | refine XK.outR [211, 319, 425, 104] hN rfl rfl rfl ?_ rfl rfl ?_ | refine XK.outRN [211, 319, 425, 104] hN rfl rfl rfl ?_ rfl rfl ?_)
    · exact ⟨frI, frI, ⟨⟨rfl, rfl, rfl⟩, rfl, fun i hi => congrArg mkC (by show padM s.marks i = (if i < q then _ else _); rw [if_pos hi])⟩, frI⟩
    · (repeat' (first | exact rfl | exact AvIs.refl _ | exact trivial | exact fun _ _ => rfl | exact fun _ _ => ⟨rfl, AvIs.refl _⟩ | refine ⟨?_, ?_⟩))
end Go.Proofs.YtlhmgphgnedlkaaGreat
end
section
/- Contracts: package migrate: what a patch does to marks; migrated. -/
namespace Go.Proofs.YtlhmgphgnedlkaaGreat
open Go.Eng
set_option maxRecDepth 10000
def chgM (k : K) (p : Pt) (hold : List Int) (x : Nat) (m : Mk) : Mk :=
  if p.kind = 5 then spanM p.days (clAt k x) m else if p.kind = 2 then replM p.new (clAt k x) m hold else if p.kind = 1 then addM p.new m else voidM m
def chgV (k : K) (p : Pt) (hold : List Int) : AV :=
  if p.kind = 5 then .fn (.func 101) [] [.rptr (ptC p), .rptr (kC k)]
  else if p.kind = 2 then .fn (.func 102) [] [.rptr (ptC p), .rptr (kC k), .rptr [intsV hold]]
  else if p.kind = 1 then .fn (.func 107) [] [.rptr (ptC p)]
  else .fn (.func 108) [] []
theorem change_ok (k : K) (p : Pt) (hold : List Int) : Does Tryz.prog 69 [kV k, ptV p, intsV hold] (chgV k p hold) := by
  refine Does.mk (fun _ => false) TT_ok Tryz.func69 rfl (by kernel_rfl) Tryz.ntmps69 rfl rfl fun E hT hE hN hR => ?_
  have hm := mixO hE
  (repeat (first | refine XK.n ?_ | refine XK.a ?_ | refine XK.b ?_)); refine XK.cond rfl (fun h1 => ?_) (fun h1 => ?_) <;> (try simp at h1)
  · rw [chgV, if_pos h1]
    (repeat (first | refine XK.n ?_ | refine XK.a ?_ | refine XK.b ?_))
    refine XK.weak (Weak.trans (Weak.frozenC (k := 3) hN rfl rfl rfl) (Weak.frozenC (k := 4) hN rfl rfl rfl)) ?_
    (first | refine XK.out rfl rfl rfl ?_ | refine XK.outN rfl rfl rfl ?_)
    rfl
  (repeat (first | refine XK.n ?_ | refine XK.a ?_ | refine XK.b ?_)); refine XK.cond rfl (fun h2 => ?_) (fun h2 => ?_) <;> (try simp at h2)
  · rw [chgV, if_neg h1, if_pos h2]
    (repeat (first | refine XK.n ?_ | refine XK.a ?_ | refine XK.b ?_))
    refine XK.weak (Weak.trans (Weak.frozenC (k := 3) hN rfl rfl rfl) (Weak.trans (Weak.frozenC (k := 4) hN rfl rfl rfl) (Weak.frozenC (k := 5) hN rfl rfl rfl))) ?_
    (first | refine XK.out rfl rfl rfl ?_ | refine XK.outN rfl rfl rfl ?_)
    rfl
  (repeat (first | refine XK.n ?_ | refine XK.a ?_ | refine XK.b ?_)); refine XK.cond rfl (fun h3 => ?_) (fun h3 => ?_) <;> (try simp at h3)
  · rw [chgV, if_neg h1, if_neg h2, if_pos h3]
    (repeat (first | refine XK.n ?_ | refine XK.a ?_ | refine XK.b ?_))
    refine XK.weak (Weak.frozenC (k := 4) hN rfl rfl rfl) ?_
    (first | refine XK.out rfl rfl rfl ?_ | refine XK.outN rfl rfl rfl ?_)
    rfl
  · rw [chgV, if_neg h1, if_neg h2, if_neg h3]
    (repeat (first | refine XK.n ?_ | refine XK.a ?_ | refine XK.b ?_))
    (first | refine XK.out rfl rfl rfl ?_ | refine XK.outN rfl rfl rfl ?_)
    rfl
end Go.Proofs.YtlhmgphgnedlkaaGreat
end
