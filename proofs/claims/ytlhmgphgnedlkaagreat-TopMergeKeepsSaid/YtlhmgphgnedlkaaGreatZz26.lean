import Derived.Test.YtlhmgphgnedlkaaGreatZz13
import Derived.Test.YtlhmgphgnedlkaaGreatZz25
section
/- Contracts: package trace: start. -/
namespace Go.Proofs.YtlhmgphgnedlkaaGreat
open Go.Eng
set_option maxRecDepth 10000
def startOne (k : K) (r : Rd) (i : Nat) : Oc := { r.out i with status := 1, from_ := r.steps, bearer := if (clAt k i).kind ≠ 4 then r.hold (clAt k i).role.toNat else (r.out i).bearer }
def istep (k : K) (s : Rd × List Int × List Int) (z : Int) : Rd × List Int × List Int :=
  if readyB k s.1.out z.toNat = false then (s.1, s.2.1, s.2.2 ++ [z])
  else if 0 ≤ (s.1.out z.toNat).from_ then s
  else (s.1.upOut z.toNat (startOne k s.1 z.toNat), s.2.1 ++ [z], s.2.2)
def innerTo (k : K) (r : Rd) (kn ws : List Int) : Nat → Rd × List Int × List Int
  | 0 => (r, kn, [])
  | p + 1 => istep k (innerTo k r kn ws p) (ws.getD p default)
def putWait (r : Rd) (z : Int) (l : List Int) : Rd := { r with wait := fun y => if y = z then l else r.wait y, dom := fun u => keyEq u (.int .i64 z) || r.dom u }
def roundR (k : K) (r : Rd) (kn : List Int) (n : Nat) : Rd × List Int :=
  (putWait (innerTo k r kn (r.wait (kn.getD n default)) (r.wait (kn.getD n default)).length).1 (kn.getD n default) (innerTo k r kn (r.wait (kn.getD n default)) (r.wait (kn.getD n default)).length).2.2,
   (innerTo k r kn (r.wait (kn.getD n default)) (r.wait (kn.getD n default)).length).2.1)
def runS (k : K) : Nat → Nat → Rd → List Int → Rd
  | 0, _, r, _ => r
  | f + 1, n, r, kn => if n < kn.length then runS k f (n + 1) (roundR k r kn n).1 (roundR k r kn n).2 else r
def unst (k : K) (out : Nat → Oc) : Nat := (List.range k.clauses.length).countP (fun i => decide ((out i).from_ < 0))
def startR (k : K) (r : Rd) (kn : List Int) : Rd := runS k (unst k r.out + kn.length) 0 r kn
def WaitOk (k : K) (r : Rd) : Prop := ∀ z, (r.wait z).length ≤ 4000 ∧ ∀ x ∈ r.wait z, 0 ≤ x ∧ x < k.clauses.length
theorem countP_upd {p p' : Nat → Bool} {n i : Nat} (hi : i < n) (h1 : p i = true) (h2 : p' i = false) (h : ∀ j, j ≠ i → p' j = p j) : (List.range n).countP p' + 1 = (List.range n).countP p := by
  induction n with
  | zero => omega
  | succ n ih =>
    rw [List.range_succ, List.countP_append, List.countP_append]
    by_cases e : i = n
    · subst e
      have : (List.range i).countP p' = (List.range i).countP p := List.countP_congr fun j hj => by rw [h j (by simp at hj; omega)]
      simp [this, h1, h2]
    · have := ih (by omega)
      simp only [List.countP_singleton, h n (Ne.symm e)]
      omega
structure Inner (k : K) (r : Rd) (kn ws : List Int) (p : Nat) (s : Rd × List Int × List Int) : Prop where
  same : s.1 = { r with out := s.1.out }
  rest : s.2.2.length ≤ p ∧ ∀ x ∈ s.2.2, x ∈ ws
  cnt : unst k s.1.out + s.2.1.length = unst k r.out + kn.length
  len : kn.length ≤ s.2.1.length
  pre : ∃ l, s.2.1 = kn ++ l
theorem getD_mem' {l : List Int} {i : Nat} (h : i < l.length) : l.getD i default ∈ l := by
  simp only [List.getD_eq_getElem?_getD, List.getElem?_eq_getElem h, Option.getD_some]
  exact List.getElem_mem h
theorem inner_inv {k : K} {r : Rd} {kn ws : List Int} (hst : 0 ≤ r.steps) (hws : ∀ x ∈ ws, 0 ≤ x ∧ x < k.clauses.length) : ∀ p, p ≤ ws.length → Inner k r kn ws p (innerTo k r kn ws p)
  | 0, _ => ⟨rfl, ⟨Nat.le_refl _, fun x hx => by simp [innerTo] at hx⟩, rfl, Nat.le_refl _, [], (List.append_nil _).symm⟩
  | p + 1, hp => by
    have ih := inner_inv (kn := kn) hst hws p (by omega)
    have hm := getD_mem' (l := ws) (i := p) (by omega)
    have hz := hws _ hm
    generalize hzz : ws.getD p default = z at hm hz
    show Inner k r kn ws (p + 1) (istep k (innerTo k r kn ws p) (ws.getD p default))
    rw [hzz]
    generalize innerTo k r kn ws p = s at ih
    unfold istep
    split
    · exact ⟨ih.same, ⟨by simp; have := ih.rest.1; omega, fun x hx => by
        simp at hx
        rcases hx with hx | rfl
        · exact ih.rest.2 x hx
        · exact hm⟩, ih.cnt, ih.len, ih.pre⟩
    · split
      · exact ⟨ih.same, ⟨by have := ih.rest.1; omega, ih.rest.2⟩, ih.cnt, ih.len, ih.pre⟩
      · rename_i h2
        have hs : s.1.steps = r.steps := by rw [ih.same]
        have := countP_upd (p := fun i => decide ((s.1.out i).from_ < 0)) (p' := fun i => decide (((s.1.upOut z.toNat (startOne k s.1 z.toNat)).out i).from_ < 0)) (n := k.clauses.length) (i := z.toNat) (by omega) (by simp; omega) (by simp [Rd.upOut, startOne, hs]; omega) (fun j hj => by simp [Rd.upOut, hj])
        refine ⟨?_, ⟨by have := ih.rest.1; simp; omega, ih.rest.2⟩, ?_, by have := ih.len; simp; omega, by obtain ⟨l, hl⟩ := ih.pre; exact ⟨l ++ [z], by rw [hl, List.append_assoc]⟩⟩
        · rw [ih.same]
          rfl
        · have hc := ih.cnt
          unfold unst at hc ⊢
          simp only [List.length_append, List.length_cons, List.length_nil]
          omega
theorem waitF_put {g : Int → List Int} {z : Int} {l : List Int} {h : Nat → List AV} (hh : ∀ i, i < l.length → h i = [.c (.int .i64 (l.getD i default))]) : ∀ u, (KK.int .i64).has u = true → AvIs (bif keyEq u (.int .i64 z) then .rs 1 l.length h else waitF g u) (waitF (fun y => if y = z then l else g y) u) := by
  intro u hu
  cases u <;> simp [KK.has] at hu
  rename_i kk y
  subst hu
  by_cases hy : y = z
  · subst hy
    simp only [keyEq, beq_self_eq_true, decide_true, Bool.and_self, cond_true, waitF, if_true]
    exact ⟨rfl, rfl, fun i hi => (hh i hi).symm⟩
  · have : keyEq (.int .i64 y) (.int .i64 z) = false := by simp [keyEq, hy]
    simp only [this, cond_false, waitF, if_neg hy]
    exact AvIs.refl _
def noInts : Ob := .vec 3 1 1 0 (fun _ => [])
theorem start_ok (k : K) (hk : KFacts k) (r : Rd) (kn : List Int) (hw : WaitOk k r) (hkn : unst k r.out + kn.length ≤ 1000) (hst : 0 ≤ r.steps ∧ r.steps ≤ 1000000) :
    DoesM Tryz.prog 154 [.ptr 0 0, .vec 6 0] (rdOs k r ++ [intsO kn]) (.tup []) (rdOs k (startR k r kn) ++ [noInts]) := by
  refine DoesM.mk (fun _ => false) 100 TT_ok Tryz.func154 rfl (by kernel_rfl) Tryz.ntmps154 rfl rfl rfl fun E hT hE hN hR => ?_
  have hm := mixO hE
  (repeat (first | refine XK.n ?_ | refine XK.a ?_ | refine XK.b ?_))
  refine XK.loop (ι := Nat × Nat × Rd × List Int) (fun q => ST.of [(0, .ptr 0 0), (1, .vec 500 0), (4, .c (.int .i64 q.2.1))] ((500, intsO q.2.2.2) :: (6, noInts) :: rdN k q.2.2.1) 1000 104 (fun _ => false))
    (fun q => runS k q.1 q.2.1 q.2.2.1 q.2.2.2 = startR k r kn ∧ q.2.1 ≤ q.2.2.2.length ∧ unst k q.2.2.1.out + q.2.2.2.length ≤ q.1 + q.2.1 ∧ WaitOk k q.2.2.1 ∧ q.2.2.1.steps = r.steps ∧ unst k q.2.2.1.out + q.2.2.2.length ≤ 1000) (fun q => q.1) (unst k r.out + kn.length, 0, r, kn)
    ⟨rfl, Nat.zero_le _, Nat.le_refl _, hw, rfl, hkn⟩
    (Weak.trans (Weak.steal 500 (k := 6) (s := 0) (f' := fun _ => []) hN rfl rfl rfl) (Weak.of hN rfl rfl rfl frI frI)) fun q hq => ?_
  obtain ⟨f, n, r1, kn1⟩ := q
  obtain ⟨g1, g2, g3, g4, g5, g6⟩ := hq
  dsimp only at g1 g2 g3 g4 g5 g6
  dsimp only
  (repeat (first | refine XK.n ?_ | refine XK.a ?_ | refine XK.b ?_)); refine XK.cond rfl (fun hlt0 => ?_) (fun hlt0 => ?_)
  · have hlt : n < kn1.length := by simpa using hlt0
    obtain ⟨f, rfl⟩ : ∃ f', f = f' + 1 := ⟨f - 1, by omega⟩
    have g1' : runS k f (n + 1) (roundR k r1 kn1 n).1 (roundR k r1 kn1 n).2 = startR k r kn := by rw [← g1, runS, if_pos hlt]
    (repeat (first | refine XK.n ?_ | refine XK.a ?_ | refine XK.b ?_))
    have hz : kn1.getD (n : Int).toNat default = kn1.getD n default := rfl
    rw [hz]
    have hws := g4 (kn1.getD n default)
    generalize hzz : kn1.getD n default = z at hws
    have hin := inner_inv (k := k) (r := r1) (kn := kn1) (ws := r1.wait z) (by omega) hws.2
    refine XK.loop (ι := Nat) (fun p => ST.of [(0, .ptr 0 0), (1, .vec 500 0), (4, .c (.int .i64 n)), (5, .vec 501 0), (23, intsV (r1.wait z)), (24, .c (.int .i64 (r1.wait z).length)), (25, .c (.int .i64 p))]
        ((500, intsO (innerTo k r1 kn1 (r1.wait z) p).2.1) :: (501, intsO (innerTo k r1 kn1 (r1.wait z) p).2.2) :: (6, noInts) :: rdN k (innerTo k r1 kn1 (r1.wait z) p).1) 2000 104 (fun _ => false))
      (fun p => p ≤ (r1.wait z).length) (fun p => (r1.wait z).length - p) 0 (Nat.zero_le _)
      (Weak.trans (Weak.ghost (j := 5) (k := 501) (e := 3) (sz := 1) (f := fun _ => []) rfl rfl) (Weak.of hN rfl rfl rfl frI (by (repeat' (first | exact rfl | exact AvIs.refl _ | exact trivial | exact fun _ _ => rfl | exact fun _ _ => ⟨rfl, AvIs.refl _⟩ | exact fun _ hi => absurd hi (Nat.not_lt_zero _) | (intro i hi; cases Nat.lt_one_iff.1 hi; rfl) | (intro j hj; by_cases hji : j = (0); (· subst hji; simp [setRowF, setL, Rd.upOut, Rd.upCnt, innerTo]; done); (· simp [setRowF, beq_false hji, Rd.upOut, Rd.upCnt, innerTo, hji, lt_succ_ne hji]; done)) | refine ⟨?_, ?_⟩))))) fun p hp => ?_
    have hip := hin p hp
    (repeat (first | refine XK.n ?_ | refine XK.a ?_ | refine XK.b ?_)); refine XK.cond rfl (fun hlp0 => ?_) (fun hlp0 => ?_)
    · have hlp : p < (r1.wait z).length := by simpa using hlp0
      have hstep : innerTo k r1 kn1 (r1.wait z) (p + 1) = istep k (innerTo k r1 kn1 (r1.wait z) p) ((r1.wait z).getD p default) := rfl
      have hx := hws.2 _ (getD_mem' hlp)
      generalize innerTo k r1 kn1 (r1.wait z) p = s at hip hstep
      obtain ⟨i, hi⟩ : ∃ i : Nat, (r1.wait z).getD p default = (i : Int) := ⟨_, (Int.toNat_of_nonneg hx.1).symm⟩
      rw [hi] at hx hstep
      have hik : i < k.clauses.length := by omega
      have hss : s.1.steps = r.steps := by rw [hip.same]; exact g5
      have hl1 := hip.rest.1
      have hl2 := hip.cnt
      (repeat (first | refine XK.n ?_ | refine XK.a ?_ | refine XK.b ?_))
      refine XK.weak (Weak.of (L := (7, .c (.int .i64 i)) :: [(0, .ptr 0 0), (1, .vec 500 0), (4, .c (.int .i64 n)), (5, .vec 501 0), (23, intsV (r1.wait z)), (24, .c (.int .i64 (r1.wait z).length)), (25, .c (.int .i64 p))]) (O := ((500, intsO s.2.1) :: (501, intsO s.2.2) :: (6, noInts) :: rdN k (s.1))) (nx := 4000) (nt := 104) (md := fun _ => false) hN rfl rfl rfl ⟨cI hi, rfl, rfl, rfl, rfl, AvIs.refl _, rfl, rfl⟩ frI) ?_
      (repeat (first | refine XK.n ?_ | refine XK.a ?_ | refine XK.b ?_)); refine XK.region ?_; refine XL.g ?_
      refine XL.callMA [0, 1, 2, 3, 4, 5] hE rfl rfl rfl rfl trivial (ready_ok k hk s.1 i hik) rfl rfl rfl rfl rfl ?_
      refine XL.g ?_; refine XL.fin ?_; (repeat (first | refine XK.n ?_ | refine XK.a ?_ | refine XK.b ?_))
      (repeat (first | refine XK.n ?_ | refine XK.a ?_ | refine XK.b ?_)); refine XK.cond rfl (fun h1 => ?_) (fun h1 => ?_)
      · have h1 : readyB k s.1.out i = false := by simpa only [Bool.not_eq_true'] using h1
        have hs' : innerTo k r1 kn1 (r1.wait z) (p + 1) = (s.1, s.2.1, s.2.2 ++ [(i : Int)]) := by
          rw [hstep, istep, Int.toNat_natCast, if_pos h1]
        (repeat (first | refine XK.n ?_ | refine XK.a ?_ | refine XK.b ?_))
        refine XK.inv ⟨p + 1, hlp, Weak.trans (Weak.stamp (k := 501) (t := 0) hN rfl rfl) (Weak.of hN rfl rfl rfl frI ?_), by omega⟩
        rw [hs']
        exact ⟨frI, ⟨⟨rfl, rfl, rfl⟩, by simp, ints_app s.2.2 i _ rfl⟩, frI⟩
      · have h1 : ¬ readyB k s.1.out i = false := by simpa only [Bool.not_eq_false', Bool.not_eq_false] using h1
        have fo : s.1.out (i : Int).toNat = s.1.out i := rfl
        (repeat (first | refine XK.n ?_ | refine XK.a ?_ | refine XK.b ?_)); refine XK.cond rfl (fun h2 => ?_) (fun h2 => ?_)
        · have h2 : 0 ≤ (s.1.out i).from_ := of_decide_eq_true h2
          have hs' : innerTo k r1 kn1 (r1.wait z) (p + 1) = s := by
            rw [hstep, istep, Int.toNat_natCast, if_neg h1, if_pos h2]
          (repeat (first | refine XK.n ?_ | refine XK.a ?_ | refine XK.b ?_))
          refine XK.inv ⟨p + 1, hlp, Weak.of hN rfl rfl rfl frI (by rw [hs']; (repeat' (first | exact rfl | exact AvIs.refl _ | exact trivial | exact fun _ _ => rfl | exact fun _ _ => ⟨rfl, AvIs.refl _⟩ | refine ⟨?_, ?_⟩))), by omega⟩
        · have h2 : ¬ 0 ≤ (s.1.out i).from_ := of_decide_eq_false h2
          have hs' : innerTo k r1 kn1 (r1.wait z) (p + 1) = (s.1.upOut i (startOne k s.1 i), s.2.1 ++ [(i : Int)], s.2.2) := by
            rw [hstep, istep, Int.toNat_natCast, if_neg h1, if_neg h2]
          have hkf := kind_facts (hk.clB hik).2.2.1
          have hx := hk.clW' hik
          have fc : k.clauses.getD (i : Int).toNat default = clAt k i := rfl
          (repeat (first | refine XK.n ?_ | refine XK.a ?_ | refine XK.b ?_))
          rw [fc]
          (repeat (first | refine XK.n ?_ | refine XK.a ?_ | refine XK.b ?_)); refine XK.join (ST.of ((7, .c (.int .i64 i)) :: [(0, .ptr 0 0), (1, .vec 500 0), (4, .c (.int .i64 n)), (5, .vec 501 0), (23, intsV (r1.wait z)), (24, .c (.int .i64 (r1.wait z).length)), (25, .c (.int .i64 p))]) ((500, intsO s.2.1) :: (501, intsO s.2.2) :: (6, noInts) :: rdN k (s.1.upOut i (startOne k s.1 i))) 6000 104 (fun _ => false)) rfl (fun h3 => ?_) (fun h3 => ?_) ?_
          · have h3 : (clAt k i).kind ≠ 4 := by simpa using h3
            have hro : 0 ≤ (clAt k i).role ∧ (clAt k i).role < k.holders.length := by
              rcases hkf with h | h
              · exact absurd h.1 h3
              · exact h.1
            (repeat (first | refine XK.n ?_ | refine XK.a ?_ | refine XK.b ?_))
            exact XK.inv (Weak.of hN rfl rfl rfl frI (by (repeat' (first | exact rfl | exact AvIs.refl _ | exact trivial | exact fun _ _ => rfl | exact fun _ _ => ⟨rfl, AvIs.refl _⟩ | exact fun _ hi => absurd hi (Nat.not_lt_zero _) | (intro i hi; cases Nat.lt_one_iff.1 hi; rfl) | (intro j hj; by_cases hji : j = (i); (· subst hji; simp [setRowF, setL, Rd.upOut, Rd.upCnt, startOne, if_pos h3]; done); (· simp [setRowF, beq_false hji, Rd.upOut, Rd.upCnt, startOne, if_pos h3, hji, lt_succ_ne hji]; done)) | refine ⟨?_, ?_⟩))))
          · have h3 : ¬ (clAt k i).kind ≠ 4 := by simpa using h3
            (repeat (first | refine XK.n ?_ | refine XK.a ?_ | refine XK.b ?_))
            exact XK.inv (Weak.of hN rfl rfl rfl frI (by (repeat' (first | exact rfl | exact AvIs.refl _ | exact trivial | exact fun _ _ => rfl | exact fun _ _ => ⟨rfl, AvIs.refl _⟩ | exact fun _ hi => absurd hi (Nat.not_lt_zero _) | (intro i hi; cases Nat.lt_one_iff.1 hi; rfl) | (intro j hj; by_cases hji : j = (i); (· subst hji; simp [setRowF, setL, Rd.upOut, Rd.upCnt, startOne, if_neg h3]; done); (· simp [setRowF, beq_false hji, Rd.upOut, Rd.upCnt, startOne, if_neg h3, hji, lt_succ_ne hji]; done)) | refine ⟨?_, ?_⟩))))
          (repeat (first | refine XK.n ?_ | refine XK.a ?_ | refine XK.b ?_))
          refine XK.inv ⟨p + 1, hlp, Weak.trans (Weak.stamp (k := 500) (t := 0) hN rfl rfl) (Weak.of hN rfl rfl rfl frI ?_), by omega⟩
          rw [hs']
          exact ⟨⟨⟨rfl, rfl, rfl⟩, by simp, ints_app s.2.1 i _ rfl⟩, frI⟩
    · have hlp : ¬ p < (r1.wait z).length := by simpa using hlp0
      have hpe : p = (r1.wait z).length := by omega
      subst hpe
      have hr : roundR k r1 kn1 n = (putWait (innerTo k r1 kn1 (r1.wait z) (r1.wait z).length).1 z (innerTo k r1 kn1 (r1.wait z) (r1.wait z).length).2.2, (innerTo k r1 kn1 (r1.wait z) (r1.wait z).length).2.1) := by
        unfold roundR
        rw [hzz]
      generalize innerTo k r1 kn1 (r1.wait z) (r1.wait z).length = s at hip hr
      rw [hr] at g1'
      obtain ⟨l, hl⟩ := hip.pre
      have hz2 : s.2.1.getD n default = z := by rw [hl, ← hzz]; simp [List.getD, List.getElem?_append_left hlt]
      have hz3 : s.2.1.getD (n : Int).toNat default = z := hz2
      have hn2 : n < s.2.1.length := by have := hip.len; omega
      have hc := hip.cnt
      have hl1 := hip.rest.1
      (repeat (first | refine XK.n ?_ | refine XK.a ?_ | refine XK.b ?_))
      refine XK.weak (Weak.trans (Weak.frozen (k := 501) hN rfl rfl) (Weak.of (L := [(0, .ptr 0 0), (1, .vec 500 0), (4, .c (.int .i64 n)), (5, intsV s.2.2)]) (O := (500, intsO s.2.1) :: (6, noInts) :: rdN k s.1) (nx := 5000) (nt := 104) (md := fun _ => false) hN rfl rfl rfl ⟨rfl, rfl, rfl, AvIs.refl _⟩ frI)) ?_
      (repeat (first | refine XK.n ?_ | refine XK.a ?_ | refine XK.b ?_))
      rw [hz3]
      refine XK.inv ⟨(f, n + 1, putWait s.1 z s.2.2, s.2.1), ⟨g1', by simp only; omega, by show unst k s.1.out + s.2.1.length ≤ f + (n + 1); omega, fun y => ?_, by show s.1.steps = r.steps; rw [hip.same]; exact g5, by show unst k s.1.out + s.2.1.length ≤ 1000; omega⟩, Weak.of hN rfl rfl rfl frI ?_, by simp only; omega⟩
      · simp only [putWait]
        by_cases hy : y = z
        · rw [if_pos hy]
          exact ⟨by omega, fun x hx => hws.2 x (hip.rest.2 x hx)⟩
        · rw [if_neg hy, hip.same]
          exact g4 y
      · exact ⟨frI, frI, frI, frI, frI, ⟨rfl, rfl, fun u hu => ⟨rfl, waitF_put (fun i hi => rfl) u hu⟩⟩, frI⟩
  · have hlt : ¬ n < kn1.length := by simpa using hlt0
    have hr : r1 = startR k r kn := by
      rw [← g1]
      cases f with
      | zero => rfl
      | succ f => rw [runS, if_neg hlt]
    subst hr
    (repeat (first | refine XK.n ?_ | refine XK.a ?_ | refine XK.b ?_))
    (first | refine XK.outR [0, 1, 2, 3, 4, 5, 6] hN rfl rfl rfl ?_ rfl rfl ?_ | refine XK.outRN [0, 1, 2, 3, 4, 5, 6] hN rfl rfl rfl ?_ rfl rfl ?_)
    · (repeat' (first | exact rfl | exact AvIs.refl _ | exact trivial | exact fun _ _ => rfl | exact fun _ _ => ⟨rfl, AvIs.refl _⟩ | refine ⟨?_, ?_⟩))
    · (repeat' (first | exact rfl | exact AvIs.refl _ | exact trivial | exact fun _ _ => rfl | exact fun _ _ => ⟨rfl, AvIs.refl _⟩ | refine ⟨?_, ?_⟩))
end Go.Proofs.YtlhmgphgnedlkaaGreat
end
section
/- Contracts: slices.Clone; package trace: step. -/
namespace Go.Proofs.YtlhmgphgnedlkaaGreat
open Go.Eng
set_option maxRecDepth 10000
theorem clone_ok (L : List Int) (h0 : 0 < L.length) (hL : L.length ≤ 1000000) : DoesM Tryz.prog 37 [intsV L] [] (.vec 0 0) [intsO L] := by
  refine DoesM.mk (fun d => Nat.beq d 5) 100 TT_ok Tryz.func37 rfl (by kernel_rfl) Tryz.ntmps37 rfl rfl rfl fun E hT hE hN hR => ?_
  have hm := mixO hE
  (repeat (first | refine XK.n ?_ | refine XK.a ?_ | refine XK.b ?_)); refine XK.cond rfl (fun h1 => ?_) (fun h1 => ?_)
  · cases h1
  · (repeat (first | refine XK.n ?_ | refine XK.a ?_ | refine XK.b ?_))
    refine XK.weak (Weak.trans (Weak.stamp (k := 121) (t := 0) hN rfl rfl) (Weak.of (L := [(2, .vec 121 0)]) (O := [(121, intsO L)]) (nx := 1000) (nt := 8) (md := fun _ => false) hN rfl rfl rfl frI ⟨⟨rfl, rfl, rfl⟩, by simp, fun j hj => ?_⟩)) ?_
    · have : Nat.blt j 0 = false := by cases j <;> rfl
      simp [catF, iC, this]
    (first | refine XK.outR [121] hN rfl rfl rfl ?_ rfl rfl ?_ | refine XK.outRN [121] hN rfl rfl rfl ?_ rfl rfl ?_)
    · (repeat' (first | exact rfl | exact AvIs.refl _ | exact trivial | exact fun _ _ => rfl | exact fun _ _ => ⟨rfl, AvIs.refl _⟩ | refine ⟨?_, ?_⟩))
    · (repeat' (first | exact rfl | exact AvIs.refl _ | exact trivial | exact fun _ _ => rfl | exact fun _ _ => ⟨rfl, AvIs.refl _⟩ | refine ⟨?_, ?_⟩))
structure RdOk (k : K) (r : Rd) : Prop where
  steps : 0 ≤ r.steps ∧ r.steps ≤ 900000
  day : 0 ≤ r.day ∧ r.day ≤ r.steps
  got : ∀ j, j < k.clauses.length → 0 ≤ (r.out j).got ∧ (r.out j).got ≤ r.steps
  cnt : ∀ j, j < k.clauses.length → 0 ≤ (r.cnt j).1 ∧ (r.cnt j).1 ≤ r.steps
  wait : WaitOk k r
def stepR (k : K) (r : Rd) (s : Int) : Rd :=
  if s = -1 then startR k (tickTo k { r with steps := r.steps + 1 } (freeB k r.day) k.clauses.length) (endedT k { r with steps := r.steps + 1 } (freeB k r.day) k.clauses.length)
  else startR k (actR k { r with steps := r.steps + 1 } s.toNat) (endedA k { r with steps := r.steps + 1 } s.toNat k.clauses.length)
theorem unst_le (k : K) (out : Nat → Oc) : unst k out ≤ k.clauses.length := by
  have := List.countP_le_length (p := fun i => decide ((out i).from_ < 0)) (l := List.range k.clauses.length)
  simpa [unst] using this
theorem endedA_len (k : K) (r : Rd) (s n : Nat) : (endedA k r s n).length ≤ n := by
  have := List.length_filter_le (fun j => (actAt1 k r s j).2.2) (List.range n)
  simpa [endedA] using this
theorem endedT_len (k : K) (r : Rd) (free : Bool) (n : Nat) : (endedT k r free n).length ≤ n := by
  have := List.length_filter_le (fun j => (tickAt k r free j).2.2) (List.range n)
  simpa [endedT] using this
theorem actR_same (k : K) (r : Rd) (s : Nat) : (actR k r s).wait = r.wait ∧ (actR k r s).steps = r.steps ∧ (actR k r s).day = r.day := by
  unfold actR
  split <;> exact ⟨rfl, rfl, rfl⟩
theorem step_ok (k : K) (hk : KFacts k) (r : Rd) (hr : RdOk k r) (s : Int) (hs : s = -1 ∨ (0 ≤ s ∧ s < k.acts.length)) :
    DoesM Tryz.prog 135 [.ptr 0 0, .c (.int .i64 s)] (rdOs k r) (.tup []) (rdOs k (stepR k r s)) := by
  refine DoesM.mk (fun _ => false) 100 TT_ok Tryz.func135 rfl (by kernel_rfl) Tryz.ntmps135 rfl rfl rfl fun E hT hE hN hR => ?_
  have hm := mixO hE
  have hst := hr.steps
  have hdy := hr.day
  have hnc := hk.nc
  (repeat (first | refine XK.n ?_ | refine XK.a ?_ | refine XK.b ?_)); refine XK.cond rfl (fun h1 => ?_) (fun h1 => ?_)
  · have h1 : s = -1 := by simpa using h1
    have hR : stepR k r s = startR k (tickTo k { r with steps := r.steps + 1 } (freeB k r.day) k.clauses.length) (endedT k { r with steps := r.steps + 1 } (freeB k r.day) k.clauses.length) := if_pos h1
    have hl := endedT_len k { r with steps := r.steps + 1 } (freeB k r.day) k.clauses.length
    have hu := unst_le k (tickTo k { r with steps := r.steps + 1 } (freeB k r.day) k.clauses.length).out
    rw [hR]
    (repeat (first | refine XK.n ?_ | refine XK.a ?_ | refine XK.b ?_)); refine XK.region ?_; refine XL.g ?_
    refine XL.callMA [0, 1, 2, 3, 4, 5, 99] hE rfl rfl rfl rfl trivial (tick_ok k hk { r with steps := r.steps + 1 } s ⟨hdy.1, by simp only; omega⟩ (fun j hj => by have := hr.cnt j hj; simp only; omega)) rfl rfl rfl rfl rfl ?_
    refine XL.g ?_
    refine XL.callMA [0, 1, 2, 3, 4, 5, 99] hE rfl rfl rfl rfl trivial (start_ok k hk (tickTo k { r with steps := r.steps + 1 } (freeB k r.day) k.clauses.length) (endedT k { r with steps := r.steps + 1 } (freeB k r.day) k.clauses.length) hr.wait (by omega) (by simp only [tickTo]; omega)) rfl rfl rfl rfl rfl ?_
    refine XL.g ?_; refine XL.fin ?_; (repeat (first | refine XK.n ?_ | refine XK.a ?_ | refine XK.b ?_))
    (repeat (first | refine XK.n ?_ | refine XK.a ?_ | refine XK.b ?_))
    (first | refine XK.outR [0, 1, 2, 3, 4, 5] hN rfl rfl rfl ?_ rfl rfl ?_ | refine XK.outRN [0, 1, 2, 3, 4, 5] hN rfl rfl rfl ?_ rfl rfl ?_)
    · (repeat' (first | exact rfl | exact AvIs.refl _ | exact trivial | exact fun _ _ => rfl | exact fun _ _ => ⟨rfl, AvIs.refl _⟩ | refine ⟨?_, ?_⟩))
    · (repeat' (first | exact rfl | exact AvIs.refl _ | exact trivial | exact fun _ _ => rfl | exact fun _ _ => ⟨rfl, AvIs.refl _⟩ | refine ⟨?_, ?_⟩))
  · have h1 : ¬ s = -1 := by simpa using h1
    have h2 := hs.resolve_left h1
    obtain ⟨i, rfl⟩ := Int.eq_ofNat_of_zero_le h2.1
    have hi : i < k.acts.length := by omega
    have hR : stepR k r i = startR k (actR k { r with steps := r.steps + 1 } i) (endedA k { r with steps := r.steps + 1 } i k.clauses.length) := if_neg h1
    have hl := endedA_len k { r with steps := r.steps + 1 } i k.clauses.length
    have hu := unst_le k (actR k { r with steps := r.steps + 1 } i).out
    have hsame := actR_same k { r with steps := r.steps + 1 } i
    rw [hR]
    (repeat (first | refine XK.n ?_ | refine XK.a ?_ | refine XK.b ?_)); refine XK.region ?_; refine XL.g ?_
    refine XL.callMA [0, 1, 2, 3, 4, 5, 99] hE rfl rfl rfl rfl trivial (act_ok k hk { r with steps := r.steps + 1 } i hi (fun j hj => by have := hr.got j hj; simp only; omega)) rfl rfl rfl rfl rfl ?_
    refine XL.g ?_
    refine XL.callMA [0, 1, 2, 3, 4, 5, 99] hE rfl rfl rfl rfl trivial (start_ok k hk (actR k { r with steps := r.steps + 1 } i) (endedA k { r with steps := r.steps + 1 } i k.clauses.length) (by unfold WaitOk; rw [hsame.1]; exact hr.wait) (by omega) (by rw [hsame.2.1]; simp only; omega)) rfl rfl rfl rfl rfl ?_
    refine XL.g ?_; refine XL.fin ?_; (repeat (first | refine XK.n ?_ | refine XK.a ?_ | refine XK.b ?_))
    (repeat (first | refine XK.n ?_ | refine XK.a ?_ | refine XK.b ?_))
    (first | refine XK.outR [0, 1, 2, 3, 4, 5] hN rfl rfl rfl ?_ rfl rfl ?_ | refine XK.outRN [0, 1, 2, 3, 4, 5] hN rfl rfl rfl ?_ rfl rfl ?_)
    · (repeat' (first | exact rfl | exact AvIs.refl _ | exact trivial | exact fun _ _ => rfl | exact fun _ _ => ⟨rfl, AvIs.refl _⟩ | refine ⟨?_, ?_⟩))
    · (repeat' (first | exact rfl | exact AvIs.refl _ | exact trivial | exact fun _ _ => rfl | exact fun _ _ => ⟨rfl, AvIs.refl _⟩ | refine ⟨?_, ?_⟩))
end Go.Proofs.YtlhmgphgnedlkaaGreat
end
section
/- Contracts: package trace: begin. -/
namespace Go.Proofs.YtlhmgphgnedlkaaGreat
open Go.Eng
set_option maxRecDepth 10000
def encZ (z : Int) : Nat := if 0 ≤ z then 2 * z.toNat else 2 * (-z).toNat + 1
def decZ (m : Nat) : Int := if m % 2 = 0 then ((m / 2 : Nat) : Int) else -((m / 2 : Nat) : Int)
theorem decZ_encZ (z : Int) : decZ (encZ z) = z := by
  unfold encZ decZ
  by_cases h : 0 ≤ z
  · rw [if_pos h, if_pos (by omega)]; omega
  · rw [if_neg h, if_neg (by omega)]; omega
theorem encZ_ne (z : Int) : encZ z ≠ 1 := by
  unfold encZ; split <;> omega
theorem encZ_dec {m : Nat} (h : m ≠ 1) : encZ (decZ m) = m := by
  unfold encZ decZ
  by_cases h2 : m % 2 = 0
  · rw [if_pos h2, if_pos (by omega)]; omega
  · rw [if_neg h2, if_neg (by omega)]; omega
def encV : Value → Nat
  | .int _ z => encZ z
  | _ => 0
theorem encV_inj : ∀ u v : Value, (KK.int .i64).has u = true → (KK.int .i64).has v = true → encV u = encV v → u = v := by
  intro u v hu hv h
  cases u <;> simp [KK.has] at hu
  cases v <;> simp [KK.has] at hv
  subst hu hv
  rename_i a b
  have h : encZ a = encZ b := h
  have : decZ (encZ a) = decZ (encZ b) := by rw [h]
  rw [decZ_encZ, decZ_encZ] at this
  rw [this]
def famW (g : Int → List Int) (m : Nat) : Nat × (Nat → List AV) := if m = 1 then (0, fun _ => []) else ((g (decZ m)).length, fun i => [.c (.int .i64 ((g (decZ m)).getD i default))])
theorem famW_at (g : Int → List Int) (z : Int) : famW g (encZ z) = ((g z).length, fun i => [.c (.int .i64 ((g z).getD i default))]) := by
  unfold famW; rw [if_neg (encZ_ne z), decZ_encZ]
abbrev Wt2 := (Int → List Int) × (Value → Bool)
def addW (w : Wt2) (z : Int) (i : Nat) : Wt2 := (fun y => if y = z then w.1 y ++ [(i : Int)] else w.1 y, fun u => keyEq u (.int .i64 z) || w.2 u)
theorem famW_add (w : Wt2) (z : Int) (i : Nat) {m : Nat} (h : m ≠ encZ z) : famW (addW w z i).1 m = famW w.1 m := by
  unfold famW
  by_cases h1 : m = 1
  · rw [if_pos h1, if_pos h1]
  · rw [if_neg h1, if_neg h1]
    have : decZ m ≠ z := fun e => h (by rw [← e, encZ_dec h1])
    simp [addW, this]
def condsTo (x : Cl) (i : Nat) (w : Wt2) : Nat → Wt2
  | 0 => w
  | m + 1 => addW (condsTo x i w m) (x.start.getD m default).clause i
def waitTo (k : K) : Nat → Wt2
  | 0 => (fun _ => [], fun _ => false)
  | n + 1 => if (clAt k n).waived = true then waitTo k n else condsTo (clAt k n) n (if (clAt k n).start.length = 0 then addW (waitTo k n) (-1) n else waitTo k n) (clAt k n).start.length
def firstOut (x : Cl) : Oc := if x.waived = true then ⟨5, -1, 0, 0, -1⟩ else ⟨0, -1, -1, 0, -1⟩
def knownTo (k : K) (n : Nat) : List Int := (-1) :: ((List.range n).filter (fun j => (clAt k j).waived)).map (fun j : Nat => (j : Int))
def begin0 (k : K) : Rd := { steps := 0, day := 0, hold := fun i => k.holders.getD i default, hap := fun _ => false, dom := (waitTo k k.clauses.length).2, wait := (waitTo k k.clauses.length).1, cnt := fun _ => (0, false), out := fun j => firstOut (clAt k j) }
def beginR (k : K) : Rd := startR k (begin0 k) (knownTo k k.clauses.length)
def begT (k : K) (n : Nat) : Rd := { begin0 k with out := fun j => if j < n then firstOut (clAt k j) else ⟨0, 0, 0, 0, 0⟩ }
def rdO2 (k : K) (r : Rd) : Ob := .cells 206 [.c (.int .i64 k.parties), intsV k.holders, unitsV k.units, actsV k.acts, clsV k.clauses, .c (.int .i64 k.days), intsV k.off,
  .c (.int .i64 r.steps), .c (.int .i64 r.day), .vec 99 0, .vec 229 0, freeV k, .mp 230, .vec 234 0, .vec 238 0]
theorem addW_ok {k : K} {w : Wt2} {z : Int} {i : Nat} {m : Nat} (hi : i < k.clauses.length) (h : ∀ y, (w.1 y).length ≤ m ∧ ∀ x ∈ w.1 y, 0 ≤ x ∧ x < k.clauses.length) : ∀ y, ((addW w z i).1 y).length ≤ m + 1 ∧ ∀ x ∈ (addW w z i).1 y, 0 ≤ x ∧ x < k.clauses.length := by
  intro y
  obtain ⟨h1, h2⟩ := h y
  simp only [addW]
  split
  · refine ⟨by simp; omega, fun x hx => ?_⟩
    simp at hx
    rcases hx with hx | rfl
    · exact h2 x hx
    · omega
  · exact ⟨by omega, h2⟩
theorem condsTo_ok {k : K} {w : Wt2} {x : Cl} {i : Nat} {m : Nat} (hi : i < k.clauses.length) (h : ∀ y, (w.1 y).length ≤ m ∧ ∀ x ∈ w.1 y, 0 ≤ x ∧ x < k.clauses.length) : ∀ p, ∀ y, ((condsTo x i w p).1 y).length ≤ m + p ∧ ∀ x_1 ∈ (condsTo x i w p).1 y, 0 ≤ x_1 ∧ x_1 < k.clauses.length
  | 0 => h
  | p + 1 => addW_ok hi (condsTo_ok hi h p)
theorem waitTo_ok {k : K} (hk : KFacts k) : ∀ n, n ≤ k.clauses.length → ∀ y, ((waitTo k n).1 y).length ≤ 9 * n ∧ ∀ x ∈ (waitTo k n).1 y, 0 ≤ x ∧ x < k.clauses.length
  | 0, _ => fun y => ⟨by simp [waitTo], fun x hx => by simp [waitTo] at hx⟩
  | n + 1, hn => by
    have ih := waitTo_ok hk n (by omega)
    have hs := (hk.clB (i := n) (by omega)).2.2.2.1
    intro y
    simp only [waitTo]
    split
    · exact ⟨by have := (ih y).1; omega, (ih y).2⟩
    · split
      · have := condsTo_ok (x := clAt k n) (i := n) (by omega) (addW_ok (z := -1) (i := n) (by omega) ih) (clAt k n).start.length y
        exact ⟨by have := this.1; omega, this.2⟩
      · have := condsTo_ok (x := clAt k n) (i := n) (by omega) ih (clAt k n).start.length y
        exact ⟨by have := this.1; omega, this.2⟩
theorem waitF_fam (g : Int → List Int) : ∀ u, (KK.int .i64).has u = true → AvIs (AV.rs 1 (famW g (encV u)).1 (famW g (encV u)).2) (waitF g u) := by
  intro u hu
  cases u <;> simp [KK.has] at hu
  rename_i kk y
  subst hu
  show AvIs (AV.rs 1 (famW g (encZ y)).1 (famW g (encZ y)).2) _
  rw [famW_at]
  exact AvIs.refl _
theorem begin_ok (k : K) (hk : KFacts k) : DoesM Tryz.prog 134 [kV k] [] (.ptr 0 0) (rdOs k (beginR k)) := by
  refine DoesM.mk (fun d => Nat.beq d 32) 100 TT_ok Tryz.func134 rfl (by kernel_rfl) Tryz.ntmps134 rfl rfl rfl fun E hT hE hN hR => ?_
  have hm := mixO hE
  have hnc := hk.nc
  have hna := hk.na
  have hnh := hk.nh
  (repeat (first | refine XK.n ?_ | refine XK.a ?_ | refine XK.b ?_)); refine XK.drawn hm ?_; refine XD.goA hT rfl rfl rfl rfl ?_
  refine XD.callMA [99] hE rfl rfl rfl rfl trivial (clone_ok k.holders (by omega) (by omega)) rfl rfl rfl rfl rfl ?_
  refine XD.goA hT rfl rfl rfl rfl ?_; refine XD.fin (by kernel_rfl) ?_; (repeat (first | refine XK.n ?_ | refine XK.a ?_ | refine XK.b ?_))
  (repeat (first | refine XK.n ?_ | refine XK.a ?_ | refine XK.b ?_))
  refine XK.loop (ι := Nat) (fun i => ⟨mkFr [(1, .rptr (kC k)), (3, .ptr 240 0), (4, .vec 471 0), (34, clsV k.clauses), (35, .c (.int .i64 k.clauses.length)), (36, .c (.int .i64 i))], obF 1000000 3 1 (famW (waitTo k i).1) ((230, mapF 1000000 (.int .i64) (waitTo k i).2 encV) :: [(240, rdO2 k (begT k i)), (99, holdO k (begT k i)), (229, hapO k (begT k i)), (234, cntO k (begT k i)), (238, outO k (begT k i)), (471, intsO (knownTo k i))]), 2000, 113, fun _ => false⟩)
    (fun i => i ≤ k.clauses.length) (fun i => k.clauses.length - i) 0 (Nat.zero_le _)
    (Weak.trans (Weak.frozenC (k := 101) hN rfl rfl rfl) (Weak.trans (Weak.of (L := [(1, .rptr (kC k)), (3, .ptr 240 0), (4, .vec 471 0), (34, clsV k.clauses), (35, .c (.int .i64 k.clauses.length)), (36, .c (.int .i64 (0 : Nat)))]) (O := (230, .mapb (.int .i64) (.slice none 0 0) (fun _ => false) (fun _ => .c (.slice none 0 0))) :: [(240, rdO2 k (begT k 0)), (99, holdO k (begT k 0)), (229, hapO k (begT k 0)), (234, cntO k (begT k 0)), (238, outO k (begT k 0)), (471, intsO (knownTo k 0))]) (nx := 2000) (nt := 113) (md := fun _ => false) hN rfl rfl rfl frI (by (repeat' (first | exact rfl | exact AvIs.refl _ | exact trivial | exact fun _ _ => rfl | exact fun _ _ => ⟨rfl, AvIs.refl _⟩ | exact fun _ hi => absurd hi (Nat.not_lt_zero _) | (intro i hi; cases Nat.lt_one_iff.1 hi; rfl) | (intro j hj; by_cases hji : j = (0); (· subst hji; simp [setRowF, setL, Rd.upOut, Rd.upCnt, begT]; done); (· simp [setRowF, beq_false hji, Rd.upOut, Rd.upCnt, begT, hji, lt_succ_ne hji]; done)) | refine ⟨?_, ?_⟩))))
      (Weak.famIn encV (famW (fun _ => [])) (fun m => by unfold famW; split <;> rfl) hN rfl rfl (fun _ => rfl)))) fun i hi => ?_
  (repeat (first | refine XK.n ?_ | refine XK.a ?_ | refine XK.b ?_)); refine XK.cond rfl (fun hlt0 => ?_) (fun hlt0 => ?_)
  · have hlt : i < k.clauses.length := by simpa using hlt0
    have fc : k.clauses.getD (i : Int).toNat default = clAt k i := rfl
    have hkl : (knownTo k i).length ≤ i + 1 := by
      have := List.length_filter_le (fun j => (clAt k j).waived) (List.range i)
      simpa [knownTo] using this
    (repeat (first | refine XK.n ?_ | refine XK.a ?_ | refine XK.b ?_))
    rw [fc]
    (repeat (first | refine XK.n ?_ | refine XK.a ?_ | refine XK.b ?_)); refine XK.cond rfl (fun hw => ?_) (fun hw => ?_)
    · have hw1 : (waitTo k (i + 1)) = waitTo k i := by simp [waitTo, hw]
      have hw2 : knownTo k (i + 1) = knownTo k i ++ [(i : Int)] := by simp [knownTo, List.range_succ, List.filter_append, hw]
      (repeat (first | refine XK.n ?_ | refine XK.a ?_ | refine XK.b ?_))
      refine XK.inv ⟨i + 1, hlt, ?_, by omega⟩
      rw [hw1, hw2]
      exact Weak.trans (Weak.stamp (k := 471) (t := 0) hN rfl rfl) (Weak.famOf hN rfl rfl frI ⟨frI, frI, frI, frI, ⟨⟨rfl, rfl, rfl⟩, rfl, by
        intro j hj
        by_cases hji : j = i
        · subst hji; simp [setRowF, setL, begT, firstOut, hw]
        · simp [setRowF, beq_false hji, begT, hji, lt_succ_ne hji]⟩, ⟨⟨rfl, rfl, rfl⟩, by simp, ints_app (knownTo k i) i _ rfl⟩⟩ (by show some (Ob.map _ (mapF _ _ _ _)) = _; rw [mapF_stamp rfl]) (fun j hj => ST.stamp_vec hj rfl (by (try dsimp only); (repeat (rw [upd_big hj rfl])); exact obF_ge hj)))
    · have hw2 : knownTo k (i + 1) = knownTo k i := by simp [knownTo, List.range_succ, List.filter_append, hw]
      have hrow : ∀ j, j < k.clauses.length → [AV.c (.int .i64 ((begT k (i + 1)).out j).status), .c (.int .i64 ((begT k (i + 1)).out j).from_), .c (.int .i64 ((begT k (i + 1)).out j).to), .c (.int .i64 ((begT k (i + 1)).out j).got), .c (.int .i64 ((begT k (i + 1)).out j).bearer)]
          = setRowF (fun j => [AV.c (.int .i64 ((begT k i).out j).status), .c (.int .i64 ((begT k i).out j).from_), .c (.int .i64 ((begT k i).out j).to), .c (.int .i64 ((begT k i).out j).got), .c (.int .i64 ((begT k i).out j).bearer)]) (i : Int).toNat 0 [.c (.int .i64 0), .c (.int .i64 (-1)), .c (.int .i64 (-1)), .c (.int .i64 0), .c (.int .i64 (-1))] j := by
        intro j hj
        by_cases hji : j = i
        · subst hji; simp [setRowF, setL, begT, firstOut, hw]
        · simp [setRowF, beq_false hji, begT, hji, lt_succ_ne hji]
      have hLn : (clAt k i).start.length ≤ 8 := (hk.clB hlt).2.2.2.1
      have hwk := waitTo_ok hk i (by omega)
      have hall : ∀ (w : Wt2) (q : Nat), (∀ y, (w.1 y).length ≤ q ∧ ∀ x ∈ w.1 y, 0 ≤ x ∧ x < k.clauses.length) → ∀ z, (w.1 z).length ≤ q := fun w q h z => (h z).1
      generalize hw1 : (if (clAt k i).start.length = 0 then addW (waitTo k i) (-1) i else waitTo k i) = w1
      have hw1k : ∀ y, (w1.1 y).length ≤ 9 * i + 1 ∧ ∀ x ∈ w1.1 y, 0 ≤ x ∧ x < k.clauses.length := by
        rw [← hw1]
        split
        · exact addW_ok hlt hwk
        · exact fun y => ⟨by have := (hwk y).1; omega, (hwk y).2⟩
      have hw3 : waitTo k (i + 1) = condsTo (clAt k i) i w1 (clAt k i).start.length := by rw [← hw1]; simp [waitTo, hw]
      have e1 : (famW (waitTo k i).1 (encV (.int .i64 (-1)))).1 = ((waitTo k i).1 (-1)).length := by show (famW _ (encZ (-1))).1 = _; rw [famW_at]
      (repeat (first | refine XK.n ?_ | refine XK.a ?_ | refine XK.b ?_)); refine XK.join (⟨mkFr [(5, .c (.int .i64 i)), (6, .ptr 2119 0), (1, .rptr (kC k)), (3, .ptr 240 0), (4, .vec 471 0), (34, clsV k.clauses), (35, .c (.int .i64 k.clauses.length)), (36, .c (.int .i64 i))], obF 1000000 3 1 (famW (w1).1) ((230, mapF 1000000 (.int .i64) (w1).2 encV) :: [(2119, .cells 48 (clC (clAt k i))), (240, rdO2 k (begT k (i + 1))), (99, holdO k (begT k (i + 1))), (229, hapO k (begT k (i + 1))), (234, cntO k (begT k (i + 1))), (238, outO k (begT k (i + 1))), (471, intsO (knownTo k i))]), 5000, 113, fun _ => false⟩) rfl (fun h0 => ?_) (fun h0 => ?_) ?_
      · have h0 : (clAt k i).start.length = 0 := by simpa using h0
        rw [if_pos h0] at hw1
        refine XK.weak (Weak.trans (Weak.famOf (B := 1000000) (k := 230) (e := 3) (sz := 1) (kk := .int .i64) (d := (waitTo k i).2) (enc := encV) (F := famW (waitTo k i).1) (L := [(5, .c (.int .i64 i)), (6, .ptr 2119 0), (1, .rptr (kC k)), (3, .ptr 240 0), (4, .vec 471 0), (34, clsV k.clauses), (35, .c (.int .i64 k.clauses.length)), (36, .c (.int .i64 i))]) (O := [(2119, .cells 48 (clC (clAt k i))), (240, rdO2 k (begT k (i + 1))), (99, holdO k (begT k (i + 1))), (229, hapO k (begT k (i + 1))), (234, cntO k (begT k (i + 1))), (238, outO k (begT k (i + 1))), (471, intsO (knownTo k i))]) (nx := 6000) (md := fun _ => false) hN rfl rfl frI ⟨frI, frI, frI, frI, frI, ⟨⟨rfl, rfl, rfl⟩, rfl, hrow⟩, frI⟩ rfl (fun j hj => by (try dsimp only); (repeat (rw [upd_big hj rfl])); exact obF_ge hj))
          (Weak.famOpen 700 (.int .i64 (-1)) hN rfl rfl rfl rfl rfl rfl rfl rfl encV_inj)) ?_
        have hb := (hwk (-1)).1
        rw [← e1] at hb
        (repeat (first | refine XK.n ?_ | refine XK.a ?_ | refine XK.b ?_))
        subst hw1
        exact XK.inv (Weak.famClose 700 (.int .i64 (-1)) (famW (addW (waitTo k i) (-1) i).1) hN rfl rfl frI frI rfl rfl (fun j hj => by (try dsimp only); (repeat (rw [upd_big hj rfl])); exact obQ_ge hj) (fun v _ => by show (bif keyEq v (.int .i64 (-1)) then AV.vec 700 1 else bif keyEq v (.int .i64 (-1)) then AV.vec 700 0 else AV.vec (1000000 + encV v) 0) = _; cases keyEq v (.int .i64 (-1)) <;> rfl) (fun _ _ => rfl)
          (by show (famW _ (encZ (-1))).1 = (famW _ (encZ (-1))).1 + 1; rw [famW_at, famW_at]; simp [addW])
          (by show ∀ j, j < (famW _ (encZ (-1))).1 + 1 → (famW _ (encZ (-1))).2 j = catF (famW _ (encZ (-1))).1 (famW _ (encZ (-1))).2 (rowOf [AV.c (.int .i64 i)] 1) j; rw [famW_at, famW_at]; have := ints_app ((waitTo k i).1 (-1)) i (rowOf [AV.c (.int .i64 i)] 1) rfl; simpa [addW] using this)
          (fun j hj => famW_add _ _ _ hj) rfl encV_inj)
      · have h0 : ¬ (clAt k i).start.length = 0 := by simpa using h0
        rw [if_neg h0] at hw1
        subst hw1
        (repeat (first | refine XK.n ?_ | refine XK.a ?_ | refine XK.b ?_))
        exact XK.inv (Weak.famOf hN rfl rfl frI ⟨frI, frI, frI, frI, frI, ⟨⟨rfl, rfl, rfl⟩, rfl, hrow⟩, frI⟩ rfl (fun j hj => by (try dsimp only); (repeat (rw [upd_big hj rfl])); exact obF_ge hj))
      (repeat (first | refine XK.n ?_ | refine XK.a ?_ | refine XK.b ?_))
      have hcd := fun m (hm : m < (clAt k i).start.length) => hk.cond hlt (s := (clAt k i).start.getD m default) (by simp only [List.getD_eq_getElem?_getD, List.getElem?_eq_getElem hm, Option.getD_some]; exact List.getElem_mem hm)
      refine XK.loop (ι := Nat) (fun m => ⟨mkFr [(5, .c (.int .i64 i)), (6, .ptr 2119 0), (85, cndsV (clAt k i).start), (86, .c (.int .i64 (clAt k i).start.length)), (87, .c (.int .i64 m)), (1, .rptr (kC k)), (3, .ptr 240 0), (4, .vec 471 0), (34, clsV k.clauses), (35, .c (.int .i64 k.clauses.length)), (36, .c (.int .i64 i))], obF 1000000 3 1 (famW (condsTo (clAt k i) i w1 m).1) ((230, mapF 1000000 (.int .i64) (condsTo (clAt k i) i w1 m).2 encV) :: [(2119, .cells 48 (clC (clAt k i))), (240, rdO2 k (begT k (i + 1))), (99, holdO k (begT k (i + 1))), (229, hapO k (begT k (i + 1))), (234, cntO k (begT k (i + 1))), (238, outO k (begT k (i + 1))), (471, intsO (knownTo k i))]), 7000, 113, fun _ => false⟩)
        (fun m => m ≤ (clAt k i).start.length) (fun m => (clAt k i).start.length - m) 0 (Nat.zero_le _)
        (Weak.famOf hN rfl rfl frI frI rfl (fun j hj => by (try dsimp only); (repeat (rw [upd_big hj rfl])); exact obF_ge hj)) fun m hm0 => ?_
      (repeat (first | refine XK.n ?_ | refine XK.a ?_ | refine XK.b ?_)); refine XK.cond rfl (fun hml0 => ?_) (fun hml0 => ?_)
      · have hml : m < (clAt k i).start.length := by simpa using hml0
        have hb := (condsTo_ok (x := clAt k i) hlt hw1k m ((clAt k i).start.getD m default).clause).1
        have hcm := hcd m hml
        have fz : ((clAt k i).start.getD (m : Int).toNat default) = (clAt k i).start.getD m default := rfl
        generalize hwm : condsTo (clAt k i) i w1 m = wm at hb
        have hwm1 : condsTo (clAt k i) i w1 (m + 1) = addW wm ((clAt k i).start.getD m default).clause i := by rw [← hwm]; rfl
        (repeat (first | refine XK.n ?_ | refine XK.a ?_ | refine XK.b ?_))
        rw [fz]
        generalize hzz : ((clAt k i).start.getD m default).clause = z at hb hwm1
        have hcc : [AV.c (.int .i64 z), .c (.int .i64 ((clAt k i).start.getD m default).is)] = cndC ((clAt k i).start.getD m default) := by rw [← hzz]; rfl
        have e2 : (famW wm.1 (encV (.int .i64 z))).1 = (wm.1 z).length := by show (famW _ (encZ z)).1 = _; rw [famW_at]
        rw [← e2] at hb
        refine XK.weak (Weak.trans (Weak.famOf (B := 1000000) (k := 230) (e := 3) (sz := 1) (kk := .int .i64) (d := wm.2) (enc := encV) (F := famW wm.1) (L := (8, .ptr 7121 0) :: [(5, .c (.int .i64 i)), (6, .ptr 2119 0), (85, cndsV (clAt k i).start), (86, .c (.int .i64 (clAt k i).start.length)), (87, .c (.int .i64 m)), (1, .rptr (kC k)), (3, .ptr 240 0), (4, .vec 471 0), (34, clsV k.clauses), (35, .c (.int .i64 k.clauses.length)), (36, .c (.int .i64 i))]) (O := (7121, .cells 130 [.c (.int .i64 z), .c (.int .i64 ((clAt k i).start.getD m default).is)]) :: [(2119, .cells 48 (clC (clAt k i))), (240, rdO2 k (begT k (i + 1))), (99, holdO k (begT k (i + 1))), (229, hapO k (begT k (i + 1))), (234, cntO k (begT k (i + 1))), (238, outO k (begT k (i + 1))), (471, intsO (knownTo k i))]) (nx := 8000) (md := fun _ => false) hN rfl rfl frI frI rfl (fun j hj => by (try dsimp only); (repeat (rw [upd_big hj rfl])); exact obF_ge hj))
          (Weak.famOpen 700 (.int .i64 z) hN rfl rfl rfl rfl rfl rfl rfl rfl encV_inj)) ?_
        refine XK.drawn hm ?_
        refine XD.goN 12 hT rfl rfl rfl rfl rfl rfl ?_ ?_
        · exact trivial
        refine XD.opE hT (y := .vec 700 0) rfl rfl rfl rfl trivial rfl (by simp [keyEq]) ?_
        refine XD.goA hT rfl rfl rfl rfl ?_; refine XD.fin (by kernel_rfl) ?_; (repeat (first | refine XK.n ?_ | refine XK.a ?_ | refine XK.b ?_))
        refine XK.inv ⟨m + 1, hml, ?_, by omega⟩
        rw [hwm1]
        exact Weak.famClose 700 (.int .i64 z) (famW (addW wm z i).1) hN rfl rfl frI frI rfl rfl (fun j hj => by (try dsimp only); (repeat (rw [upd_big hj rfl])); exact obQ_ge hj) (fun v _ => by show (bif keyEq v (.int .i64 z) then AV.vec 700 1 else bif keyEq v (.int .i64 z) then AV.vec 700 0 else AV.vec (1000000 + encV v) 0) = _; cases keyEq v (.int .i64 z) <;> rfl) (fun _ _ => rfl)
          (by show (famW _ (encZ z)).1 = (famW _ (encZ z)).1 + 1; rw [famW_at, famW_at]; simp [addW])
          (by show ∀ j, j < (famW _ (encZ z)).1 + 1 → (famW _ (encZ z)).2 j = catF (famW _ (encZ z)).1 (famW _ (encZ z)).2 (rowOf [AV.c (.int .i64 i)] 1) j; rw [famW_at, famW_at]; have := ints_app (wm.1 z) i (rowOf [AV.c (.int .i64 i)] 1) rfl; simpa [addW] using this)
          (fun j hj => famW_add _ _ _ hj) rfl encV_inj
      · have hml : ¬ m < (clAt k i).start.length := by simpa using hml0
        have hme : m = (clAt k i).start.length := by omega
        subst hme
        (repeat (first | refine XK.n ?_ | refine XK.a ?_ | refine XK.b ?_))
        refine XK.inv ⟨i + 1, hlt, ?_, by omega⟩
        rw [hw3, hw2]
        exact Weak.famOf hN rfl rfl frI frI rfl (fun j hj => by (try dsimp only); (repeat (rw [upd_big hj rfl])); exact obF_ge hj)
  · have hlt : ¬ i < k.clauses.length := by simpa using hlt0
    have hin : i = k.clauses.length := by omega
    subst hin
    have hwk := waitTo_ok hk k.clauses.length (Nat.le_refl _)
    have hkl : (knownTo k k.clauses.length).length ≤ k.clauses.length + 1 := by
      have := List.length_filter_le (fun j => (clAt k j).waived) (List.range k.clauses.length)
      simpa [knownTo] using this
    have hu := unst_le k (begin0 k).out
    (repeat (first | refine XK.n ?_ | refine XK.a ?_ | refine XK.b ?_))
    refine XK.weak (Weak.trans (Weak.famOf (B := 1000000) (k := 230) (e := 3) (sz := 1) (kk := .int .i64) (d := (waitTo k k.clauses.length).2) (enc := encV) (F := famW (waitTo k k.clauses.length).1) (L := [(3, .ptr 240 0), (4, .vec 471 0)]) (O := [(240, rdO2 k (begin0 k)), (99, holdO k (begin0 k)), (229, hapO k (begin0 k)), (234, cntO k (begin0 k)), (238, outO k (begin0 k)), (471, intsO (knownTo k k.clauses.length))]) (nx := 4000) (md := fun _ => false) hN rfl rfl frI ⟨frI, frI, frI, frI, ⟨⟨rfl, rfl, rfl⟩, rfl, fun j hj => by simp [begT, hj, begin0]⟩, frI⟩ rfl (fun j hj => by (try dsimp only); (repeat (rw [upd_big hj rfl])); exact obF_ge hj))
      (Weak.trans (Weak.famOut hN rfl rfl) (Weak.of (L := [(3, .ptr 240 0), (4, .vec 471 0)]) (O := (230, waitO (begin0 k)) :: [(240, rdO2 k (begin0 k)), (99, holdO k (begin0 k)), (229, hapO k (begin0 k)), (234, cntO k (begin0 k)), (238, outO k (begin0 k)), (471, intsO (knownTo k k.clauses.length))]) (nx := 4000) (nt := 113) (md := fun _ => false) hN rfl rfl rfl frI ⟨⟨rfl, rfl, fun u hu => ⟨rfl, waitF_fam _ u hu⟩⟩, frI⟩))) ?_
    (repeat (first | refine XK.n ?_ | refine XK.a ?_ | refine XK.b ?_)); refine XK.region ?_; refine XL.g ?_
    refine XL.callMA [240, 99, 229, 230, 234, 238, 471] hE rfl rfl rfl rfl trivial (start_ok k hk (begin0 k) (knownTo k k.clauses.length) (fun z => ⟨by have := (hwk z).1; show _ ≤ 4000; simp only [begin0]; omega, (hwk z).2⟩) (by omega) ⟨by simp [begin0], by simp [begin0]⟩) rfl rfl rfl rfl rfl ?_
    refine XL.g ?_; refine XL.fin ?_; (repeat (first | refine XK.n ?_ | refine XK.a ?_ | refine XK.b ?_))
    (repeat (first | refine XK.n ?_ | refine XK.a ?_ | refine XK.b ?_))
    (first | refine XK.outR [240, 99, 229, 230, 234, 238] hN rfl rfl rfl ?_ rfl rfl ?_ | refine XK.outRN [240, 99, 229, 230, 234, 238] hN rfl rfl rfl ?_ rfl rfl ?_)
    · (repeat' (first | exact rfl | exact AvIs.refl _ | exact trivial | exact fun _ _ => rfl | exact fun _ _ => ⟨rfl, AvIs.refl _⟩ | refine ⟨?_, ?_⟩))
    · (repeat' (first | exact rfl | exact AvIs.refl _ | exact trivial | exact fun _ _ => rfl | exact fun _ _ => ⟨rfl, AvIs.refl _⟩ | refine ⟨?_, ?_⟩))
end Go.Proofs.YtlhmgphgnedlkaaGreat
end
section
/- Contracts: package trace: the readings of beginnings; follow. -/
namespace Go.Proofs.YtlhmgphgnedlkaaGreat
open Go.Eng
set_option maxRecDepth 10000
structure Kept (k : K) (r r' : Rd) : Prop where
  steps : r'.steps = r.steps
  day : r'.day = r.day
  hold : r'.hold = r.hold
  hap : r'.hap = r.hap
  cnt : r'.cnt = r.cnt
  got : ∀ j, (r'.out j).got = (r.out j).got
  wait : WaitOk k r → WaitOk k r'
theorem Kept.trans {k : K} {a b c : Rd} (h : Kept k a b) (h' : Kept k b c) : Kept k a c :=
  ⟨h'.steps.trans h.steps, h'.day.trans h.day, h'.hold.trans h.hold, h'.hap.trans h.hap, h'.cnt.trans h.cnt, fun j => (h'.got j).trans (h.got j), fun w => h'.wait (h.wait w)⟩
theorem istep_got (k : K) (s : Rd × List Int × List Int) (z : Int) (j : Nat) : ((istep k s z).1.out j).got = (s.1.out j).got := by
  unfold istep
  split
  · rfl
  · split
    · rfl
    · simp only [Rd.upOut]
      by_cases h : j = z.toNat
      · rw [if_pos h, h]; rfl
      · rw [if_neg h]
theorem inner_got (k : K) (r : Rd) (kn ws : List Int) (j : Nat) : ∀ p, ((innerTo k r kn ws p).1.out j).got = (r.out j).got
  | 0 => rfl
  | p + 1 => (istep_got k _ _ j).trans (inner_got k r kn ws j p)
theorem roundR_kept {k : K} {r : Rd} {kn : List Int} {n : Nat} (hst : 0 ≤ r.steps) (hw : WaitOk k r) : Kept k r (roundR k r kn n).1 := by
  have hws := hw (kn.getD n default)
  have hin := inner_inv (k := k) (r := r) (kn := kn) hst hws.2 _ (Nat.le_refl _)
  have hg := fun j => inner_got k r kn (r.wait (kn.getD n default)) j (r.wait (kn.getD n default)).length
  unfold roundR
  simp only
  generalize innerTo k r kn (r.wait (kn.getD n default)) (r.wait (kn.getD n default)).length = s at hin hg
  have hs := hin.same
  refine ⟨by simp only [putWait]; rw [hs], by simp only [putWait]; rw [hs], by simp only [putWait]; rw [hs], by simp only [putWait]; rw [hs], by simp only [putWait]; rw [hs], hg, fun _ y => ?_⟩
  simp only [putWait]
  by_cases hy : y = kn.getD n default
  · rw [if_pos hy]
    exact ⟨by have := hin.rest.1; omega, fun x hx => hws.2 x (hin.rest.2 x hx)⟩
  · rw [if_neg hy, hs]
    exact hw y
theorem runS_kept {k : K} : ∀ (f n : Nat) (r : Rd) (kn : List Int), 0 ≤ r.steps → WaitOk k r → Kept k r (runS k f n r kn)
  | 0, _, r, _, _, _ => ⟨rfl, rfl, rfl, rfl, rfl, fun _ => rfl, id⟩
  | f + 1, n, r, kn, hst, hw => by
    rw [runS]
    split
    · have h := roundR_kept (k := k) (r := r) (kn := kn) (n := n) hst hw
      exact h.trans (runS_kept f (n + 1) _ _ (by rw [h.steps]; exact hst) (h.wait hw))
    · exact ⟨rfl, rfl, rfl, rfl, rfl, fun _ => rfl, id⟩
theorem startR_kept {k : K} {r : Rd} {kn : List Int} (hst : 0 ≤ r.steps) (hw : WaitOk k r) : Kept k r (startR k r kn) := runS_kept _ _ _ _ hst hw
theorem RdOk.of_kept {k : K} {r r' : Rd} (h : RdOk k r) (hk : Kept k r r') : RdOk k r' :=
  ⟨by rw [hk.steps]; exact h.steps, by rw [hk.day, hk.steps]; exact h.day, fun j hj => by rw [hk.got, hk.steps]; exact h.got j hj, fun j hj => by rw [hk.cnt, hk.steps]; exact h.cnt j hj, hk.wait h.wait⟩
theorem begin0_ok {k : K} (hk : KFacts k) : RdOk k (begin0 k) := by
  refine ⟨by simp [begin0], by simp [begin0], fun j hj => ?_, fun j hj => by simp [begin0], fun z => ⟨?_, (waitTo_ok hk _ (Nat.le_refl _) z).2⟩⟩
  · simp only [begin0, firstOut]
    split <;> simp
  · have := (waitTo_ok hk _ (Nat.le_refl _) z).1
    have h2 := hk.nc
    simp only [begin0]; omega
theorem beginR_ok {k : K} (hk : KFacts k) : RdOk k (beginR k) ∧ (beginR k).steps = 0 := by
  have h := startR_kept (k := k) (r := begin0 k) (kn := knownTo k k.clauses.length) (by simp [begin0]) (begin0_ok hk).wait
  exact ⟨(begin0_ok hk).of_kept h, h.steps⟩
theorem countOne_got {x : Cl} {steps doer : Int} {p : Bool} {o : Oc} : o.got ≤ (countOne x steps doer p o).1.got ∧ (countOne x steps doer p o).1.got ≤ o.got + 1 := by
  unfold countOne
  split
  · exact ⟨Int.le_refl _, by (try simp only); omega⟩
  · split
    · split <;> exact ⟨by simp only; omega, by simp only; omega⟩
    · split
      · split
        · exact ⟨Int.le_refl _, by (try simp only); omega⟩
        · exact ⟨by simp only; omega, by simp only; omega⟩
      · exact ⟨by simp only; omega, by simp only; omega⟩
theorem actAt1_got (k : K) (r : Rd) (s j : Nat) : (r.out j).got ≤ (actAt1 k r s j).1.got ∧ (actAt1 k r s j).1.got ≤ (r.out j).got + 1 := by
  unfold actAt1 actOne
  split
  · simp only
    split
    · exact countOne_got
    · exact ⟨Int.le_refl _, by (try simp only); omega⟩
  · exact ⟨Int.le_refl _, by (try simp only); omega⟩
theorem actTo_got (k : K) (r : Rd) (s n j : Nat) : (r.out j).got ≤ ((actTo k r s n).out j).got ∧ ((actTo k r s n).out j).got ≤ (r.out j).got + 1 := by
  simp only [actTo]
  split
  · exact actAt1_got k r s j
  · exact ⟨Int.le_refl _, by (try simp only); omega⟩
theorem novTo_got (k : K) (a : Act) (r : Rd) (n j : Nat) : ((novTo k a r n).out j).got = (r.out j).got := by
  simp only [novTo]
  split
  · split <;> rfl
  · rfl
theorem actR_got (k : K) (r : Rd) (s j : Nat) : (r.out j).got ≤ ((actR k r s).out j).got ∧ ((actR k r s).out j).got ≤ (r.out j).got + 1 := by
  unfold actR
  simp only
  split
  · exact actTo_got k r s _ j
  · rw [novTo_got]; exact actTo_got k r s _ j
theorem actR_cnt (k : K) (r : Rd) (s j : Nat) : ((actR k r s).cnt j).1 = (r.cnt j).1 := by
  unfold actR
  simp only
  split <;> (simp only [actTo, novTo]; split <;> rfl)
theorem tickOne_got (x : Cl) (free : Bool) (steps : Int) (o : Oc) (c : Int × Bool) : (tickOne x free steps o c).1.got = o.got ∧ c.1 ≤ (tickOne x free steps o c).2.1 ∧ (tickOne x free steps o c).2.1 ≤ c.1 + 1 := by
  unfold tickOne
  split
  · exact ⟨rfl, by simp only; omega, by simp only; omega⟩
  · split
    · exact ⟨rfl, by simp only; omega, by simp only; omega⟩
    · split <;> exact ⟨rfl, by simp only; omega, by simp only; omega⟩
theorem stepR_ok {k : K} (hk : KFacts k) {r : Rd} (h : RdOk k r) (hs : r.steps < 900000) (s : Int) : RdOk k (stepR k r s) ∧ (stepR k r s).steps = r.steps + 1 := by
  have h0 := h.steps
  have hd := h.day
  unfold stepR
  split
  · have hok : RdOk k (tickTo k { r with steps := r.steps + 1 } (freeB k r.day) k.clauses.length) := by
      refine ⟨by simp only [tickTo]; omega, by simp only [tickTo]; omega, fun j hj => ?_, fun j hj => ?_, h.wait⟩
      · have h1 := h.got j hj
        simp only [tickTo, if_pos hj, tickAt]
        rw [(tickOne_got _ _ _ _ _).1]
        omega
      · have h1 := h.cnt j hj
        simp only [tickTo, if_pos hj, tickAt]
        have := (tickOne_got (clAt k j) (freeB k r.day) (r.steps + 1) (r.out j) (r.cnt j)).2
        omega
    have hk' := startR_kept (k := k) (r := tickTo k { r with steps := r.steps + 1 } (freeB k r.day) k.clauses.length) (kn := endedT k { r with steps := r.steps + 1 } (freeB k r.day) k.clauses.length) hok.steps.1 hok.wait
    exact ⟨hok.of_kept hk', hk'.steps⟩
  · have hsame := actR_same k { r with steps := r.steps + 1 } s.toNat
    have hok : RdOk k (actR k { r with steps := r.steps + 1 } s.toNat) := by
      refine ⟨by rw [hsame.2.1]; simp only; omega, by rw [hsame.2.1, hsame.2.2]; simp only; omega, fun j hj => ?_, fun j hj => ?_, by unfold WaitOk; rw [hsame.1]; exact h.wait⟩
      · have h1 := h.got j hj
        have h2 := actR_got k { r with steps := r.steps + 1 } s.toNat j
        rw [hsame.2.1]
        simp only at h2 ⊢
        omega
      · have h1 := h.cnt j hj
        rw [actR_cnt, hsame.2.1]
        simp only
        omega
    have hk' := startR_kept (k := k) (r := actR k { r with steps := r.steps + 1 } s.toNat) (kn := endedA k { r with steps := r.steps + 1 } s.toNat k.clauses.length) hok.steps.1 hok.wait
    exact ⟨hok.of_kept hk', by rw [hk'.steps, hsame.2.1]⟩
def followR (k : K) (l : List Int) : Nat → Rd
  | 0 => beginR k
  | n + 1 => stepR k (followR k l n) (l.getD n default)
theorem followR_ok {k : K} (hk : KFacts k) (l : List Int) : ∀ n, n < 900000 → RdOk k (followR k l n) ∧ (followR k l n).steps = n
  | 0, _ => beginR_ok hk
  | n + 1, hn => by
    obtain ⟨h1, h2⟩ := followR_ok hk l n (by omega)
    obtain ⟨h3, h4⟩ := stepR_ok hk h1 (by rw [h2]; omega) (l.getD n default)
    exact ⟨h3, by show (stepR k _ _).steps = _; rw [h4, h2]; omega⟩
def stepsOk (k : K) (l : List Int) : Prop := ∀ i, i < l.length → l.getD i default = -1 ∨ (0 ≤ l.getD i default ∧ l.getD i default < k.acts.length)
end Go.Proofs.YtlhmgphgnedlkaaGreat
end
