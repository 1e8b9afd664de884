import Derived.Test.YtlhmgphgnedlkaaGreatZz13
import Derived.Test.YtlhmgphgnedlkaaGreatZz17
section
/- Contracts: slices.BinarySearch on the days off. -/
namespace Go.Proofs.YtlhmgphgnedlkaaGreat
open Go.Eng
set_option maxRecDepth 10000
theorem halfW (i j : Nat) : Int.fdiv ((i : Int) + j) (2 ^ (min (Int.toNat 1) (IntKind.bits .u64))) = (((i + j) / 2 : Nat) : Int) := by
  have : (2 : Int) ^ (min (Int.toNat 1) (IntKind.bits .u64)) = 2 := by decide
  rw [this, Int.fdiv_eq_ediv_of_nonneg _ (by omega)]
  omega
theorem offW_mono {k : K} (h : offB k = true) : ∀ i j, i < j → j < k.off.length → k.off.getD i default < k.off.getD j default := by
  have h1 : ∀ i, i < k.off.length → offPrev k i < k.off.getD i default := fun i hi => by
    have := List.all_eq_true.1 h i (List.mem_range.2 hi)
    simp only [Bool.and_eq_true, decide_eq_true_eq] at this
    exact this.1
  intro i j hij hj
  induction j with
  | zero => omega
  | succ j ih =>
    have h2 := h1 (j + 1) hj
    simp only [offPrev, Nat.add_sub_cancel, Nat.succ_ne_zero, if_false, Nat.add_one_ne_zero] at h2
    by_cases h3 : i = j
    · subst h3; exact h2
    · have := ih (by omega) (by omega)
      omega
theorem offW_len {k : K} (hk : KFacts k) : k.off.length ≤ 1000000 := by
  have hmono := offW_mono hk.off
  have hlow : ∀ i, i < k.off.length → (i : Int) ≤ k.off.getD i default := fun i => by
    induction i with
    | zero =>
      intro hi
      have := List.all_eq_true.1 hk.off 0 (List.mem_range.2 hi)
      simp [offPrev] at this
      simp
      omega
    | succ i ih =>
      intro hi
      have h1 := ih (by omega)
      have h2 := hmono i (i + 1) (by omega) hi
      omega
  rcases Nat.eq_zero_or_pos k.off.length with h | h
  · omega
  · have h1 := hlow (k.off.length - 1) (by omega)
    have h2 := List.all_eq_true.1 hk.off (k.off.length - 1) (List.mem_range.2 (by omega))
    simp only [Bool.and_eq_true, decide_eq_true_eq] at h2
    have h3 := hk.days
    omega
theorem anyW {l : List Int} {d : Int} : l.any (fun x => x == d) = true ↔ ∃ i, i < l.length ∧ l.getD i default = d := by
  rw [List.any_eq_true]
  constructor
  · rintro ⟨x, hx, h⟩
    obtain ⟨i, hi, rfl⟩ := List.getElem_of_mem hx
    exact ⟨i, hi, by simpa only [List.getD_eq_getElem?_getD, List.getElem?_eq_getElem hi, Option.getD_some, beq_iff_eq] using h⟩
  · rintro ⟨i, hi, h⟩
    refine ⟨_, List.getElem_mem hi, ?_⟩
    simpa only [List.getD_eq_getElem?_getD, List.getElem?_eq_getElem hi, Option.getD_some, beq_iff_eq] using h
theorem nanS_ok (x : Int) : Does Tryz.prog 127 [.c (.int .i64 x)] (.c (.bool false)) := by
  refine Does.mk (fun _ => false) TT_ok Tryz.func127 rfl (by kernel_rfl) Tryz.ntmps127 rfl rfl fun E hT hE hN hR => ?_
  have hm := mixO hE
  (repeat (first | refine XK.n ?_ | refine XK.a ?_ | refine XK.b ?_))
  (first | refine XK.out rfl rfl rfl ?_ | refine XK.outN rfl rfl rfl ?_)
  simp
theorem nanC_ok (x : Int) : Does Tryz.prog 148 [.c (.int .i64 x)] (.c (.bool false)) := by
  refine Does.mk (fun _ => false) TT_ok Tryz.func148 rfl (by kernel_rfl) Tryz.ntmps148 rfl rfl fun E hT hE hN hR => ?_
  have hm := mixO hE
  (repeat (first | refine XK.n ?_ | refine XK.a ?_ | refine XK.b ?_))
  (first | refine XK.out rfl rfl rfl ?_ | refine XK.outN rfl rfl rfl ?_)
  simp
theorem less_ok (x y : Int) : Does Tryz.prog 126 [.c (.int .i64 x), .c (.int .i64 y)] (.c (.bool (decide (x < y)))) := by
  refine Does.mk (fun _ => false) TT_ok Tryz.func126 rfl (by kernel_rfl) Tryz.ntmps126 rfl rfl fun E hT hE hN hR => ?_
  have hm := mixO hE
  (repeat (first | refine XK.n ?_ | refine XK.a ?_ | refine XK.b ?_)); refine XK.region ?_; refine XL.g ?_
  refine XL.callLA hE rfl rfl rfl rfl trivial rfl (nanC_ok x) rfl ?_
  refine XL.g ?_
  refine XL.callGA hE rfl rfl rfl rfl rfl rfl rfl rfl (nanC_ok y) rfl ?_
  refine XL.g ?_; refine XL.fin ?_; (repeat (first | refine XK.n ?_ | refine XK.a ?_ | refine XK.b ?_))
  (first | refine XK.out rfl rfl rfl ?_ | refine XK.outN rfl rfl rfl ?_)
  simp
theorem bsearch_ok (k : K) (hk : KFacts k) (day : Int) : ∃ m : Nat, m ≤ 1000000 ∧ Does Tryz.prog 94 [intsV k.off, .c (.int .i64 day)] (.tup [.c (.int .i64 m), .c (.bool (offD k day))]) := by
  have hmono := offW_mono hk.off
  have hlen := offW_len hk
  have hm1 : ∀ i j, i ≤ j → j < k.off.length → ¬ k.off.getD i default < day → ¬ k.off.getD j default < day := fun i j hij hj h => by
    by_cases e : i = j
    · subst e; exact h
    · have := hmono i j (by omega) hj
      omega
  -- the least index from which the days are not before
  obtain ⟨m, m1, m2, m3⟩ : ∃ m : Nat, m ≤ k.off.length ∧ (∀ i, i < m → k.off.getD i default < day) ∧ ∀ i, m ≤ i → i < k.off.length → ¬ k.off.getD i default < day := by
    have key : ∀ n, n ≤ k.off.length → ∃ m : Nat, m ≤ n ∧ (∀ i, i < m → k.off.getD i default < day) ∧ ∀ i, m ≤ i → i < n → ¬ k.off.getD i default < day := by
      intro n
      induction n with
      | zero => exact fun _ => ⟨0, Nat.le_refl _, fun i hi => absurd hi (Nat.not_lt_zero _), fun i _ hi => absurd hi (Nat.not_lt_zero _)⟩
      | succ n ih =>
        intro hn
        obtain ⟨m, h1, h2, h3⟩ := ih (by omega)
        by_cases hd : k.off.getD n default < day
        · refine ⟨n + 1, Nat.le_refl _, fun i hi => ?_, fun i h4 h5 => by omega⟩
          by_cases e : i = n
          · subst e; exact hd
          · have := hmono i n (by omega) (by omega)
            omega
        · refine ⟨m, by omega, h2, fun i h4 h5 => ?_⟩
          by_cases e : i = n
          · subst e; exact hd
          · exact h3 i h4 (by omega)
    exact key _ (Nat.le_refl _)
  have hfin : offD k day = (decide (m < k.off.length) && k.off.getD m default == day) := by
    unfold offD
    rw [Bool.eq_iff_iff, anyW]
    constructor
    · rintro ⟨i, hi, he⟩
      have h4 : ¬ i < m := fun h => by have := m2 i h; omega
      have h5 : m < k.off.length := by omega
      have h6 := m3 m (Nat.le_refl _) h5
      have h7 : ¬ m < i := fun h => by have := hmono m i h hi; omega
      have : m = i := by omega
      subst this
      rw [decide_eq_true hi, Bool.true_and, beq_iff_eq]
      exact he
    · intro h
      simp only [Bool.and_eq_true, decide_eq_true_eq, beq_iff_eq] at h
      exact ⟨m, h.1, h.2⟩
  refine ⟨m, by omega, ?_⟩
  refine Does.mk (fun _ => false) TT_ok Tryz.func94 rfl (by kernel_rfl) Tryz.ntmps94 rfl rfl fun E hT hE hN hR => ?_
  have hm := mixO hE
  (repeat (first | refine XK.n ?_ | refine XK.a ?_ | refine XK.b ?_))
  refine XK.loop (ι := Nat × Nat) (fun p => ST.of [(0, intsV k.off), (1, .c (.int .i64 day)), (6, .c (.int .i64 k.off.length)), (7, .c (.int .i64 p.1)), (8, .c (.int .i64 p.2))] [] 1000 54 (fun _ => false))
    (fun p => p.1 ≤ m ∧ m ≤ p.2 ∧ p.2 ≤ k.off.length) (fun p => p.2 - p.1) (0, k.off.length) ⟨Nat.zero_le _, m1, Nat.le_refl _⟩
    (Weak.of hN rfl rfl rfl frI frI) fun p hp => ?_
  obtain ⟨a, b⟩ := p
  obtain ⟨h1, h2, h3⟩ := hp
  simp only at h1 h2 h3
  (repeat (first | refine XK.n ?_ | refine XK.a ?_ | refine XK.b ?_)); refine XK.cond rfl (fun hlt => ?_) (fun hlt => ?_) <;> (try simp at hlt)
  · have hh := halfW a b
    (repeat (first | refine XK.n ?_ | refine XK.a ?_ | refine XK.b ?_))
    refine XK.weak (Weak.of (L := [(0, intsV k.off), (1, .c (.int .i64 day)), (6, .c (.int .i64 k.off.length)), (7, .c (.int .i64 a)), (8, .c (.int .i64 b)), (9, .c (.int .i64 (((a + b) / 2 : Nat) : Int)))]) (O := []) (nx := 3000) (nt := 54) (md := fun _ => false) hN rfl rfl rfl ⟨AvIs.refl _, rfl, rfl, rfl, rfl, cI hh⟩ trivial) ?_
    have hlt2 : (a + b) / 2 < k.off.length := by omega
    have fo : k.off.getD ((((a + b) / 2 : Nat) : Int)).toNat default = k.off.getD ((a + b) / 2) default := rfl
    (repeat (first | refine XK.n ?_ | refine XK.a ?_ | refine XK.b ?_)); refine XK.region ?_; refine XL.g ?_
    refine XL.callLA hE rfl rfl rfl rfl trivial rfl (less_ok (k.off.getD ((((a + b) / 2 : Nat) : Int)).toNat default) day) rfl ?_
    refine XL.g ?_; refine XL.fin ?_; (repeat (first | refine XK.n ?_ | refine XK.a ?_ | refine XK.b ?_))
    rw [fo]
    (repeat (first | refine XK.n ?_ | refine XK.a ?_ | refine XK.b ?_)); refine XK.cond rfl (fun h5 => ?_) (fun h5 => ?_) <;> (try simp at h5)
    · (repeat (first | refine XK.n ?_ | refine XK.a ?_ | refine XK.b ?_))
      have h6 : (a + b) / 2 < m := Decidable.byContradiction fun h => m3 ((a + b) / 2) (by omega) hlt2 (by simpa using h5)
      exact XK.inv ⟨((a + b) / 2 + 1, b), ⟨by omega, h2, h3⟩, (Weak.of hN rfl rfl rfl frI frI), by omega⟩
    · (repeat (first | refine XK.n ?_ | refine XK.a ?_ | refine XK.b ?_))
      have h6 : m ≤ (a + b) / 2 := Decidable.byContradiction fun h => by have h7 := m2 ((a + b) / 2) (by omega); rw [List.getD_eq_getElem?_getD] at h7; exact absurd h7 (Int.not_lt.2 h5)
      exact XK.inv ⟨(a, (a + b) / 2), ⟨h1, h6, by show (a + b) / 2 ≤ _; omega⟩, (Weak.of hN rfl rfl rfl frI frI), by show (a + b) / 2 - a < b - a; omega⟩
  · have hab : a = m := by omega
    subst hab
    rw [hfin]
    (repeat (first | refine XK.n ?_ | refine XK.a ?_ | refine XK.b ?_)); refine XK.region ?_; refine XL.g ?_
    refine XL.callGA hE rfl rfl rfl rfl rfl rfl rfl rfl (nanS_ok (k.off.getD (a : Int).toNat default)) rfl ?_
    refine XL.g ?_
    refine XL.callGA hE rfl rfl rfl rfl rfl rfl rfl rfl (nanS_ok day) rfl ?_
    refine XL.g ?_; refine XL.fin ?_; (repeat (first | refine XK.n ?_ | refine XK.a ?_ | refine XK.b ?_))
    (first | refine XK.out rfl rfl rfl ?_ | refine XK.outN rfl rfl rfl ?_)
    simp
end Go.Proofs.YtlhmgphgnedlkaaGreat
end
section
/- Contracts: package system: tick. -/
namespace Go.Proofs.YtlhmgphgnedlkaaGreat
open Go.Eng
set_option maxRecDepth 10000
def fxT : Ob := .vec 165 1 0 5 (rowOf [.c .nilFunc, .fn (.func 91) [] [], .fn (.func 92) [] [], .fn (.func 93) [] [], .fn (.func 93) [] []] 1)
theorem clC_kind {x : Cl} {n : Int} (h : x.kind = n) : clC x = .c (.int .i64 n) :: (clC x).tail := by
  subst h; rfl
theorem wtick_ok (k : K) (hk : KFacts k) (w : Wk) (hd : 0 ≤ w.day ∧ w.day ≤ 100000) (hl : ∀ i, i < k.clauses.length → runsM (w.mark i) = true → RunF k (clAt k i) (w.mark i)) : DoesM Tryz.prog 61 [.ptr 0 0] (wOs k w) (.tup []) (wOs k (tickW k w)) := by
  refine DoesM.mk (fun _ => false) 100 TT_ok Tryz.func61 rfl (by kernel_rfl) Tryz.ntmps61 rfl rfl rfl fun E hT hE hN hR => ?_
  have hm := mixO hE
  have hnc := hk.nc
  obtain ⟨m, hm1, hbs⟩ := bsearch_ok k hk w.day
  (repeat (first | refine XK.n ?_ | refine XK.a ?_ | refine XK.b ?_))
  refine XK.weak (Weak.of (L := [(1, .ptr 101 0), (2, .vptr 191 0 1 0 0)]) (O := (101, .cells 131 [.ptr 0 0]) :: (191, fxT) :: wN k w) (nx := 1000) (nt := 89) (md := fun _ => false) hN rfl rfl rfl frI frI) ?_
  (repeat (first | refine XK.n ?_ | refine XK.a ?_ | refine XK.b ?_)); refine XK.drawn hm ?_; refine XD.goA hT rfl rfl rfl rfl ?_
  refine XD.callLA hE rfl rfl rfl rfl trivial rfl (hbs) rfl ?_
  refine XD.goA hT rfl rfl rfl rfl ?_; refine XD.fin (by kernel_rfl) ?_; (repeat (first | refine XK.n ?_ | refine XK.a ?_ | refine XK.b ?_))
  (repeat (first | refine XK.n ?_ | refine XK.a ?_ | refine XK.b ?_)); refine XK.region ?_; refine XL.g ?_
  refine XL.callMA [0, 1, 2, 3, 701] hE rfl rfl rfl rfl trivial (wrunning_ok k w) rfl rfl rfl rfl rfl ?_
  refine XL.g ?_; refine XL.fin ?_; (repeat (first | refine XK.n ?_ | refine XK.a ?_ | refine XK.b ?_))
  have hT0 : tickW k w = startW k { mapRun (tickM k (offD k w.day)) w k.clauses.length with day := w.day + 1 } := rfl
  rw [hT0]
  generalize offD k w.day = free
  refine XK.weak (Weak.trans (Weak.frozenC (k := 1004) hN rfl rfl rfl) (Weak.of (L := [(1, .ptr 101 0), (2, .vptr 191 0 1 0 0), (4, .rptr [.c (.bool free)]), (23, .fn (.func 128) [] [.ptr 701 0])]) (O := (701, .cells 131 [.ptr 0 0]) :: (101, .cells 131 [.ptr 0 0]) :: (191, fxT) :: wN k w) (nx := 2000) (nt := 89) (md := fun _ => false) hN rfl rfl rfl frI frI)) ?_
  refine XK.rangeFunc 900 [701, 0, 1, 2, 3, 101, 191] (frL 89 [(1, .ptr 101 0), (2, .vptr 191 0 1 0 0), (4, .rptr [.c (.bool free)])])
    (ST.of [(1, .ptr 101 0)] ((101, .cells 131 [.ptr 0 0]) :: wN k (mapRun (tickM k free) w k.clauses.length)) 3000 89 (fun _ => false))
    (res := .tup []) (args' := [.ptr 1 0]) (s := .ready) (pend := none) (O' := itT k free (mapRun (tickM k free) w k.clauses.length)) (O := itT k free w) hR rfl trivial rfl (frL_length _ _) (frL_is frI) (fun L D fn => ?_) rfl frI rfl rfl frI rfl rfl (by simp) (fun L D fn cs => (Weak.of hN rfl rfl rfl frI frI)) ?_
  · rw [hE]
    refine runItT_ok k free hk w (tickM k free) L L (recOf fn _ _ _ D .ready none) (fun i hi hr => ?_)
    have hs := mapRun_succ (tickM k free) w i
    rw [if_pos hr] at hs
    have hm0 : (mapRun (tickM k free) w i).mark i = w.mark i := mapRun_ge (Nat.lt_irrefl i)
    have hrf := hl i hi hr
    rw [hs]
    generalize mapRun (tickM k free) w i = w2 at *
    have fc2 : k.clauses.getD (i : Int).toNat default = clAt k i := rfl
    have hkw := kindW (hk.clB hi).2.2.1
    have hlb := hrf.left
    have hlc := (hk.clB hi).2.1
    have hst := hrf.stat
    refine DoesR.mkT TT_ok (fun _ => false) 100 (ST.of [(1, .ptr 6 0), (2, .vptr 7 0 1 0 0), (4, .rptr [.c (.bool free)]), (5, .c (.int .i64 i))] ((0, .lrec (recOf fn _ _ _ D .ready none) L (csT k free)) :: itNT k free w2) 1000 89 (fun _ => false)) rfl ?_ (Nat.le_refl 7) (fun E hT hE hN hR => ?_) rfl (fun E hT hE hN hR => ?_)
    · intro x hx
      simp only [List.mem_toArray, List.mem_singleton] at hx
      subst hx
      show 24 < (frL 89 _).length
      rw [frL_length]
      omega
    · have hm := mixO hE
      (repeat (first | refine XK.n ?_ | refine XK.a ?_ | refine XK.b ?_))
      exact XK.nil ⟨rfl, (Weak.of hN rfl rfl rfl frI frI)⟩
    · have hm := mixO hE
      unfold tickM
      (repeat (first | refine XK.n ?_ | refine XK.a ?_ | refine XK.b ?_))
      rw [fc2]
      (repeat (first | refine XK.n ?_ | refine XK.a ?_ | refine XK.b ?_)); refine XK.cond rfl (fun h5 => ?_) (fun h5 => ?_)
      · have h5 : ((w2.mark i).paused || (clAt k i).business && free) = true := h5
        rw [hm0] at h5
        rw [if_pos h5, ← hm0, upM_self]
        (repeat (first | refine XK.n ?_ | refine XK.a ?_ | refine XK.b ?_))
        (first | refine XK.outY [0, 1, 2, 3, 4, 5, 6, 7] hN rfl rfl rfl ?_ ?_ ?_ | refine XK.outYN [0, 1, 2, 3, 4, 5, 6, 7] hN rfl rfl rfl ?_ ?_ ?_)
        · (repeat' (first | exact rfl | exact AvIs.refl _ | exact trivial | exact fun _ _ => rfl | exact fun _ _ => ⟨rfl, AvIs.refl _⟩ | refine ⟨?_, ?_⟩))
        · rfl
        · rfl
      · have h5 : ((w2.mark i).paused || (clAt k i).business && free) = false := h5
        rw [hm0] at h5
        rw [if_neg (by rw [h5]; simp)]
        generalize hmm : w.mark i = mm at *
        have fm : w2.mark (i : Int).toNat = mm := hm0
        (repeat (first | refine XK.n ?_ | refine XK.a ?_ | refine XK.b ?_))
        refine XK.weak (Weak.of (L := [(1, .ptr 6 0), (2, .vptr 7 0 1 0 0), (4, .rptr [.c (.bool free)]), (5, .c (.int .i64 i)), (6, .ptr 1006 0)]) (O := (1006, .cells 48 (clC (clAt k i))) :: (0, .lrec (recOf fn _ _ _ D .busy none) L (csT k free)) :: itNT k free (w2.upM i (lessM mm))) (nx := 2000) (nt := 89) (md := fun _ => false) hN rfl rfl rfl frI (by (repeat' (first | exact rfl | exact AvIs.refl _ | exact trivial | exact fun _ _ => rfl | exact fun _ _ => ⟨rfl, AvIs.refl _⟩ | exact fun _ hi => absurd hi (Nat.not_lt_zero _) | (intro i hi; cases Nat.lt_one_iff.1 hi; rfl) | (intro j hj; by_cases hji : j = (i); (· subst hji; simp [setRowF, setL, mkC, Wk.upM, lessM, hm0]; done); (· simp [setRowF, beq_false hji, Wk.upM, lessM, hm0, hji, lt_succ_ne hji]; done)) | refine ⟨?_, ?_⟩)))) ?_
        have f2 : (w2.upM i (lessM mm)).mark (i : Int).toNat = lessM mm := upM_same _ _ _
        have hk4 : (clAt k i).kind = 1 ∨ (clAt k i).kind = 2 ∨ (clAt k i).kind = 3 ∨ (clAt k i).kind = 4 := by omega
        (repeat (first | refine XK.n ?_ | refine XK.a ?_ | refine XK.b ?_))
        rw [f2]
        (repeat (first | refine XK.n ?_ | refine XK.a ?_ | refine XK.b ?_)); refine XK.cond rfl (fun h6 => ?_) (fun h6 => ?_) <;> (try simp at h6)
        · have h6 : mm.left - 1 = 0 := h6
          rw [if_pos h6]
          unfold dayM
          rcases hk4 with h7 | h7 | h7 | h7
          · rw [if_pos h7, clC_kind h7]
            (repeat (first | refine XK.n ?_ | refine XK.a ?_ | refine XK.b ?_)); refine XK.drawn hm ?_; refine XD.goA hT rfl rfl rfl rfl ?_
            refine XD.callMA [2, 3, 4, 5] hE rfl rfl rfl rfl trivial (expire_ok k hk (w2.upM i (lessM mm)) i hi) rfl rfl rfl rfl rfl ?_
            refine XD.goA hT rfl rfl rfl rfl ?_; refine XD.fin (by kernel_rfl) ?_; (repeat (first | refine XK.n ?_ | refine XK.a ?_ | refine XK.b ?_))
            rw [upM_same, upM_upM]
            (first | refine XK.outY [0, 1, 2, 3, 4, 5, 6, 7] hN rfl rfl rfl ?_ ?_ ?_ | refine XK.outYN [0, 1, 2, 3, 4, 5, 6, 7] hN rfl rfl rfl ?_ ?_ ?_)
            · (repeat' (first | exact rfl | exact AvIs.refl _ | exact trivial | exact fun _ _ => rfl | exact fun _ _ => ⟨rfl, AvIs.refl _⟩ | refine ⟨?_, ?_⟩))
            · rfl
            · rfl
          · rw [if_neg (by omega), if_pos h7, clC_kind h7]
            (repeat (first | refine XK.n ?_ | refine XK.a ?_ | refine XK.b ?_)); refine XK.drawn hm ?_; refine XD.goA hT rfl rfl rfl rfl ?_
            refine XD.callMA [2, 3, 4, 5] hE rfl rfl rfl rfl trivial (done_ok k (w2.upM i (lessM mm)) i hi) rfl rfl rfl rfl rfl ?_
            refine XD.goA hT rfl rfl rfl rfl ?_; refine XD.fin (by kernel_rfl) ?_; (repeat (first | refine XK.n ?_ | refine XK.a ?_ | refine XK.b ?_))
            rw [upM_same, upM_upM]
            (first | refine XK.outY [0, 1, 2, 3, 4, 5, 6, 7] hN rfl rfl rfl ?_ ?_ ?_ | refine XK.outYN [0, 1, 2, 3, 4, 5, 6, 7] hN rfl rfl rfl ?_ ?_ ?_)
            · (repeat' (first | exact rfl | exact AvIs.refl _ | exact trivial | exact fun _ _ => rfl | exact fun _ _ => ⟨rfl, AvIs.refl _⟩ | refine ⟨?_, ?_⟩))
            · rfl
            · rfl
          · rw [if_neg (by omega), if_neg (by omega), clC_kind h7]
            (repeat (first | refine XK.n ?_ | refine XK.a ?_ | refine XK.b ?_)); refine XK.drawn hm ?_; refine XD.goA hT rfl rfl rfl rfl ?_
            refine XD.callMA [2, 3, 4, 5] hE rfl rfl rfl rfl trivial (lapse_ok k (w2.upM i (lessM mm)) i hi) rfl rfl rfl rfl rfl ?_
            refine XD.goA hT rfl rfl rfl rfl ?_; refine XD.fin (by kernel_rfl) ?_; (repeat (first | refine XK.n ?_ | refine XK.a ?_ | refine XK.b ?_))
            rw [upM_same, upM_upM]
            (first | refine XK.outY [0, 1, 2, 3, 4, 5, 6, 7] hN rfl rfl rfl ?_ ?_ ?_ | refine XK.outYN [0, 1, 2, 3, 4, 5, 6, 7] hN rfl rfl rfl ?_ ?_ ?_)
            · (repeat' (first | exact rfl | exact AvIs.refl _ | exact trivial | exact fun _ _ => rfl | exact fun _ _ => ⟨rfl, AvIs.refl _⟩ | refine ⟨?_, ?_⟩))
            · rfl
            · rfl
          · rw [if_neg (by omega), if_neg (by omega), clC_kind h7]
            (repeat (first | refine XK.n ?_ | refine XK.a ?_ | refine XK.b ?_)); refine XK.drawn hm ?_; refine XD.goA hT rfl rfl rfl rfl ?_
            refine XD.callMA [2, 3, 4, 5] hE rfl rfl rfl rfl trivial (lapse_ok k (w2.upM i (lessM mm)) i hi) rfl rfl rfl rfl rfl ?_
            refine XD.goA hT rfl rfl rfl rfl ?_; refine XD.fin (by kernel_rfl) ?_; (repeat (first | refine XK.n ?_ | refine XK.a ?_ | refine XK.b ?_))
            rw [upM_same, upM_upM]
            (first | refine XK.outY [0, 1, 2, 3, 4, 5, 6, 7] hN rfl rfl rfl ?_ ?_ ?_ | refine XK.outYN [0, 1, 2, 3, 4, 5, 6, 7] hN rfl rfl rfl ?_ ?_ ?_)
            · (repeat' (first | exact rfl | exact AvIs.refl _ | exact trivial | exact fun _ _ => rfl | exact fun _ _ => ⟨rfl, AvIs.refl _⟩ | refine ⟨?_, ?_⟩))
            · rfl
            · rfl
        · have h6 : ¬ mm.left - 1 = 0 := h6
          rw [if_neg h6]
          (repeat (first | refine XK.n ?_ | refine XK.a ?_ | refine XK.b ?_))
          (first | refine XK.outY [0, 1, 2, 3, 4, 5, 6, 7] hN rfl rfl rfl ?_ ?_ ?_ | refine XK.outYN [0, 1, 2, 3, 4, 5, 6, 7] hN rfl rfl rfl ?_ ?_ ?_)
          · (repeat' (first | exact rfl | exact AvIs.refl _ | exact trivial | exact fun _ _ => rfl | exact fun _ _ => ⟨rfl, AvIs.refl _⟩ | refine ⟨?_, ?_⟩))
          · rfl
          · rfl
  · have hd2 : 0 ≤ (mapRun (tickM k free) w k.clauses.length).day ∧ (mapRun (tickM k free) w k.clauses.length).day ≤ 100000 := hd
    have hd3 : (mapRun (tickM k free) w k.clauses.length).day = w.day := rfl
    rw [← hd3]
    generalize mapRun (tickM k free) w k.clauses.length = w2 at *
    (repeat (first | refine XK.n ?_ | refine XK.a ?_ | refine XK.b ?_))
    refine XK.weak (Weak.of (L := [(1, .ptr 101 0)]) (O := (101, .cells 131 [.ptr 0 0]) :: wN k { w2 with day := w2.day + 1 }) (nx := 4000) (nt := 89) (md := fun _ => false) hN rfl rfl rfl frI frI) ?_
    (repeat (first | refine XK.n ?_ | refine XK.a ?_ | refine XK.b ?_)); refine XK.region ?_; refine XL.g ?_
    refine XL.callMA [0, 1, 2, 3] hE rfl rfl rfl rfl trivial (wstart_ok k hk { w2 with day := w2.day + 1 }) rfl rfl rfl rfl rfl ?_
    refine XL.g ?_; refine XL.fin ?_; (repeat (first | refine XK.n ?_ | refine XK.a ?_ | refine XK.b ?_))
    (first | refine XK.outR [0, 1, 2, 3] hN rfl rfl rfl ?_ rfl rfl ?_ | refine XK.outRN [0, 1, 2, 3] hN rfl rfl rfl ?_ rfl rfl ?_)
    · (repeat' (first | exact rfl | exact AvIs.refl _ | exact trivial | exact fun _ _ => rfl | exact fun _ _ => ⟨rfl, AvIs.refl _⟩ | refine ⟨?_, ?_⟩))
    · (repeat' (first | exact rfl | exact AvIs.refl _ | exact trivial | exact fun _ _ => rfl | exact fun _ _ => ⟨rfl, AvIs.refl _⟩ | refine ⟨?_, ?_⟩))
end Go.Proofs.YtlhmgphgnedlkaaGreat
end
section
/- Contracts: package system: act. -/
namespace Go.Proofs.YtlhmgphgnedlkaaGreat
open Go.Eng
set_option maxRecDepth 10000
theorem doerM_ok (k : K) (hk : KFacts k) (w : Wk) (a : Nat) (ha : a < k.acts.length) : DoesM Tryz.prog 98 [kV k, .agg [.c (.int .i64 w.day), .vec 0 0, .vec 1 0, .vec 2 0], .c (.int .i64 a)] (wRows k w) (.c (.int .i64 (doerW k w.hold a))) (wRows k w) := by
  refine DoesM.mk (fun _ => false) 100 TT_ok Tryz.func98 rfl (by kernel_rfl) Tryz.ntmps98 rfl rfl rfl fun E hT hE hN hR => ?_
  have hm := mixO hE
  have fc : k.acts.getD (a : Int).toNat default = acAt k a := rfl
  have hr := (actF (hk.act a ha)).1
  (repeat (first | refine XK.n ?_ | refine XK.a ?_ | refine XK.b ?_))
  rw [fc]
  generalize hx : acAt k a = x at *
  (repeat (first | refine XK.n ?_ | refine XK.a ?_ | refine XK.b ?_)); refine XK.cond rfl (fun h0 => ?_) (fun h0 => ?_) <;> (try simp at h0)
  · (repeat (first | refine XK.n ?_ | refine XK.a ?_ | refine XK.b ?_))
    (first | refine XK.outR [0, 1, 2] hN rfl rfl rfl ?_ rfl rfl ?_ | refine XK.outRN [0, 1, 2] hN rfl rfl rfl ?_ rfl rfl ?_)
    · (repeat' (first | exact rfl | exact AvIs.refl _ | exact trivial | exact fun _ _ => rfl | exact fun _ _ => ⟨rfl, AvIs.refl _⟩ | refine ⟨?_, ?_⟩))
    · rw [doerW, hx, if_pos h0]; exact AvIs.refl _
  · (repeat (first | refine XK.n ?_ | refine XK.a ?_ | refine XK.b ?_))
    rw [fc]
    (first | refine XK.outR [0, 1, 2] hN rfl rfl rfl ?_ rfl rfl ?_ | refine XK.outRN [0, 1, 2] hN rfl rfl rfl ?_ rfl rfl ?_)
    · (repeat' (first | exact rfl | exact AvIs.refl _ | exact trivial | exact fun _ _ => rfl | exact fun _ _ => ⟨rfl, AvIs.refl _⟩ | refine ⟨?_, ?_⟩))
    · rw [doerW, hx, if_neg h0]
      rfl
def fxA : Ob := .vec 165 1 0 5 (rowOf [.c .nilFunc, .fn (.func 96) [] [], .fn (.func 97) [] [], .fn (.func 92) [] [], .fn (.func 92) [] []] 1)
theorem wact_ok (k : K) (hk : KFacts k) (w : Wk) (a : Nat) (ha : a < k.acts.length) (hl : ∀ i, i < k.clauses.length → runsM (w.mark i) = true → RunF k (clAt k i) (w.mark i)) : DoesM Tryz.prog 62 [.ptr 0 0, .c (.int .i64 a)] (wOs k w) (.tup []) (wOs k (actW' k w a)) := by
  refine DoesM.mk (fun _ => false) 100 TT_ok Tryz.func62 rfl (by kernel_rfl) Tryz.ntmps62 rfl rfl rfl fun E hT hE hN hR => ?_
  have hm := mixO hE
  have hnc := hk.nc
  have fc : k.acts.getD (a : Int).toNat default = acAt k a := rfl
  (repeat (first | refine XK.n ?_ | refine XK.a ?_ | refine XK.b ?_))
  refine XK.weak (Weak.trans (Weak.frozenC (k := 103) hN rfl rfl rfl) (Weak.trans (Weak.frozenC (k := 236) hN rfl rfl rfl) (Weak.of (L := [(2, .ptr 102 0), (3, .rptr [.c (.int .i64 (a : Nat))]), (4, .rptr (actC (acAt k a))), (30, .c (.bool ((acAt k a).kind != 1 && w.used a)))]) (O := (102, .cells 131 [.ptr 0 0]) :: wN k w) (nx := 1000) (nt := 132) (md := fun _ => false) hN rfl rfl rfl frI frI))) ?_
  unfold actW'
  (repeat (first | refine XK.n ?_ | refine XK.a ?_ | refine XK.b ?_)); refine XK.cond rfl (fun h1 => ?_) (fun h1 => ?_) <;> (try simp at h1)
  · rw [if_pos (show (acAt k a).kind ≠ 1 ∧ w.used a = true by simpa using h1)]
    (repeat (first | refine XK.n ?_ | refine XK.a ?_ | refine XK.b ?_))
    (first | refine XK.outR [0, 1, 2, 3] hN rfl rfl rfl ?_ rfl rfl ?_ | refine XK.outRN [0, 1, 2, 3] hN rfl rfl rfl ?_ rfl rfl ?_)
    · (repeat' (first | exact rfl | exact AvIs.refl _ | exact trivial | exact fun _ _ => rfl | exact fun _ _ => ⟨rfl, AvIs.refl _⟩ | refine ⟨?_, ?_⟩))
    · (repeat' (first | exact rfl | exact AvIs.refl _ | exact trivial | exact fun _ _ => rfl | exact fun _ _ => ⟨rfl, AvIs.refl _⟩ | refine ⟨?_, ?_⟩))
  · rw [if_neg (show ¬ ((acAt k a).kind ≠ 1 ∧ w.used a = true) by simpa using h1)]
    clear h1
    have hpre : preA k w a = mapRun (effM k a (doerW k w.hold a)) (mapRun (pauseM k a) w k.clauses.length) k.clauses.length := rfl
    have hl1 : ∀ i, i < k.clauses.length → runsM ((mapRun (pauseM k a) w k.clauses.length).mark i) = true → RunF k (clAt k i) ((mapRun (pauseM k a) w k.clauses.length).mark i) := fun i hi hr => by
      rw [mapRun_mk hi] at hr ⊢
      split at hr
      · rename_i h2
        rw [if_pos h2]
        exact pause_keep (hl i hi h2) (by omega)
      · rename_i h2
        exact absurd hr h2
    have hd1 : doerW k (mapRun (pauseM k a) w k.clauses.length).hold a = doerW k w.hold a := rfl
    (repeat (first | refine XK.n ?_ | refine XK.a ?_ | refine XK.b ?_)); refine XK.region ?_; refine XL.g ?_
    refine XL.callMA [0, 1, 2, 3, 701] hE rfl rfl rfl rfl trivial (wrunning_ok k w) rfl rfl rfl rfl rfl ?_
    refine XL.g ?_; refine XL.fin ?_; (repeat (first | refine XK.n ?_ | refine XK.a ?_ | refine XK.b ?_))
    refine XK.weak (Weak.of (L := [(2, .ptr 102 0), (3, .rptr [.c (.int .i64 (a : Nat))]), (4, .rptr (actC (acAt k a))), (32, .fn (.func 128) [] [.ptr 701 0])]) (O := (701, .cells 131 [.ptr 0 0]) :: (102, .cells 131 [.ptr 0 0]) :: wN k w) (nx := 2000) (nt := 132) (md := fun _ => false) hN rfl rfl rfl frI frI) ?_
    refine XK.rangeFunc 900 [701, 0, 1, 2, 3, 102] (frL 132 [(2, .ptr 102 0), (3, .rptr [.c (.int .i64 (a : Nat))])])
      (ST.of [(2, .ptr 102 0), (3, .rptr [.c (.int .i64 (a : Nat))]), (4, .rptr (actC (acAt k a)))] ((102, .cells 131 [.ptr 0 0]) :: wN k (mapRun (pauseM k a) w k.clauses.length)) 3000 132 (fun _ => false))
      (res := .tup []) (args' := [.ptr 1 0]) (s := .ready) (pend := none) (O' := itP k a (mapRun (pauseM k a) w k.clauses.length)) (O := itP k a w) hR rfl trivial rfl (frL_length _ _) (frL_is frI) (fun L D fn => ?_) rfl frI rfl rfl frI rfl rfl (by simp) (fun L D fn cs => (Weak.of hN rfl rfl rfl frI frI)) ?_
    · rw [hE]
      refine runItP_ok k a hk w (pauseM k a) L L (recOf fn _ _ _ D .ready none) (fun i hi hr => ?_)
      have hs := mapRun_succ (pauseM k a) w i
      rw [if_pos hr] at hs
      have hm0 : (mapRun (pauseM k a) w i).mark i = w.mark i := mapRun_ge (Nat.lt_irrefl i)
      rw [hs]
      generalize mapRun (pauseM k a) w i = w2 at *
      have fc2 : k.clauses.getD (i : Int).toNat default = clAt k i := rfl
      refine DoesR.mkT TT_ok (fun _ => false) 100 (ST.of [(2, .ptr 6 0), (3, .rptr [.c (.int .i64 (a : Nat))]), (5, .c (.int .i64 i))] ((0, .lrec (recOf fn _ _ _ D .ready none) L (csP k a)) :: itNP k a w2) 1000 132 (fun _ => false)) rfl ?_ (Nat.le_refl 6) (fun E hT hE hN hR => ?_) rfl (fun E hT hE hN hR => ?_)
      · intro x hx
        simp only [List.mem_toArray, List.mem_singleton] at hx
        subst hx
        show 33 < (frL 132 _).length
        rw [frL_length]
        omega
      · have hm := mixO hE
        (repeat (first | refine XK.n ?_ | refine XK.a ?_ | refine XK.b ?_))
        exact XK.nil ⟨rfl, (Weak.of hN rfl rfl rfl frI frI)⟩
      · have hm := mixO hE
        unfold pauseM
        (repeat (first | refine XK.n ?_ | refine XK.a ?_ | refine XK.b ?_))
        rw [fc2]
        (repeat (first | refine XK.n ?_ | refine XK.a ?_ | refine XK.b ?_)); refine XK.cond rfl (fun h5 => ?_) (fun h5 => ?_) <;> (try simp at h5)
        · rw [if_pos (show (a : Int) = (clAt k i).pause by simpa using h5), ← hm0]
          (repeat (first | refine XK.n ?_ | refine XK.a ?_ | refine XK.b ?_))
          (first | refine XK.outY [0, 1, 2, 3, 4, 5, 6] hN rfl rfl rfl ?_ ?_ ?_ | refine XK.outYN [0, 1, 2, 3, 4, 5, 6] hN rfl rfl rfl ?_ ?_ ?_)
          · (repeat' (first | exact rfl | exact AvIs.refl _ | exact trivial | exact fun _ _ => rfl | exact fun _ _ => ⟨rfl, AvIs.refl _⟩ | exact fun _ hi => absurd hi (Nat.not_lt_zero _) | (intro i hi; cases Nat.lt_one_iff.1 hi; rfl) | (intro j hj; by_cases hji : j = (i); (· subst hji; simp [setRowF, setL, mkC, Wk.upM]; done); (· simp [setRowF, beq_false hji, Wk.upM, hji, lt_succ_ne hji]; done)) | refine ⟨?_, ?_⟩))
          · rfl
          · rfl
        · rw [if_neg (show ¬ (a : Int) = (clAt k i).pause by simpa using h5), ← hm0]
          (repeat (first | refine XK.n ?_ | refine XK.a ?_ | refine XK.b ?_))
          rw [fc2]
          (repeat (first | refine XK.n ?_ | refine XK.a ?_ | refine XK.b ?_)); refine XK.cond rfl (fun h6 => ?_) (fun h6 => ?_) <;> (try simp at h6)
          · rw [if_pos (show (a : Int) = (clAt k i).resume by simpa using h6)]
            (repeat (first | refine XK.n ?_ | refine XK.a ?_ | refine XK.b ?_))
            (first | refine XK.outY [0, 1, 2, 3, 4, 5, 6] hN rfl rfl rfl ?_ ?_ ?_ | refine XK.outYN [0, 1, 2, 3, 4, 5, 6] hN rfl rfl rfl ?_ ?_ ?_)
            · (repeat' (first | exact rfl | exact AvIs.refl _ | exact trivial | exact fun _ _ => rfl | exact fun _ _ => ⟨rfl, AvIs.refl _⟩ | exact fun _ hi => absurd hi (Nat.not_lt_zero _) | (intro i hi; cases Nat.lt_one_iff.1 hi; rfl) | (intro j hj; by_cases hji : j = (i); (· subst hji; simp [setRowF, setL, mkC, Wk.upM]; done); (· simp [setRowF, beq_false hji, Wk.upM, hji, lt_succ_ne hji]; done)) | refine ⟨?_, ?_⟩))
            · rfl
            · rfl
          · rw [if_neg (show ¬ (a : Int) = (clAt k i).resume by simpa using h6), upM_self]
            (repeat (first | refine XK.n ?_ | refine XK.a ?_ | refine XK.b ?_))
            (first | refine XK.outY [0, 1, 2, 3, 4, 5, 6] hN rfl rfl rfl ?_ ?_ ?_ | refine XK.outYN [0, 1, 2, 3, 4, 5, 6] hN rfl rfl rfl ?_ ?_ ?_)
            · (repeat' (first | exact rfl | exact AvIs.refl _ | exact trivial | exact fun _ _ => rfl | exact fun _ _ => ⟨rfl, AvIs.refl _⟩ | refine ⟨?_, ?_⟩))
            · rfl
            · rfl
    · generalize mapRun (pauseM k a) w k.clauses.length = w1 at *
      rw [← hd1] at hpre
      (repeat (first | refine XK.n ?_ | refine XK.a ?_ | refine XK.b ?_))
      refine XK.weak (Weak.of (L := [(2, .ptr 102 0), (3, .rptr [.c (.int .i64 (a : Nat))]), (4, .rptr (actC (acAt k a))), (6, .vptr 3006 0 1 0 0)]) (O := (102, .cells 131 [.ptr 0 0]) :: (3006, fxA) :: wN k w1) (nx := 4000) (nt := 132) (md := fun _ => false) hN rfl rfl rfl frI frI) ?_
      have hdm := doerM_ok k hk w1 a ha
      generalize doerW k w1.hold a = by_ at *
      (repeat (first | refine XK.n ?_ | refine XK.a ?_ | refine XK.b ?_)); refine XK.drawn hm ?_; refine XD.goA hT rfl rfl rfl rfl ?_
      refine XD.callMA [1, 2, 3] hE rfl rfl rfl rfl trivial (hdm) rfl rfl rfl rfl rfl ?_
      refine XD.goA hT rfl rfl rfl rfl ?_; refine XD.fin (by kernel_rfl) ?_; (repeat (first | refine XK.n ?_ | refine XK.a ?_ | refine XK.b ?_))
      refine XK.weak (Weak.trans (Weak.frozenC (k := 4007) hN rfl rfl rfl) (Weak.of (L := [(2, .ptr 102 0), (3, .rptr [.c (.int .i64 (a : Nat))]), (4, .rptr (actC (acAt k a))), (6, .vptr 3006 0 1 0 0), (7, .rptr [.c (.int .i64 by_)])]) (O := (102, .cells 131 [.ptr 0 0]) :: (3006, fxA) :: wN k w1) (nx := 5000) (nt := 132) (md := fun _ => false) hN rfl rfl rfl frI frI)) ?_
      (repeat (first | refine XK.n ?_ | refine XK.a ?_ | refine XK.b ?_)); refine XK.region ?_; refine XL.g ?_
      refine XL.callMA [0, 1, 2, 3, 701] hE rfl rfl rfl rfl trivial (wrunning_ok k w1) rfl rfl rfl rfl rfl ?_
      refine XL.g ?_; refine XL.fin ?_; (repeat (first | refine XK.n ?_ | refine XK.a ?_ | refine XK.b ?_))
      refine XK.weak (Weak.of (L := [(2, .ptr 102 0), (3, .rptr [.c (.int .i64 (a : Nat))]), (4, .rptr (actC (acAt k a))), (6, .vptr 3006 0 1 0 0), (7, .rptr [.c (.int .i64 by_)]), (85, .fn (.func 128) [] [.ptr 701 0])]) (O := (701, .cells 131 [.ptr 0 0]) :: (102, .cells 131 [.ptr 0 0]) :: (3006, fxA) :: wN k w1) (nx := 6000) (nt := 132) (md := fun _ => false) hN rfl rfl rfl frI frI) ?_
      refine XK.rangeFunc 900 [701, 0, 1, 2, 3, 102, 3006] (frL 132 [(2, .ptr 102 0), (3, .rptr [.c (.int .i64 (a : Nat))]), (6, .vptr 3006 0 1 0 0), (7, .rptr [.c (.int .i64 by_)])])
        (ST.of [(2, .ptr 102 0), (3, .rptr [.c (.int .i64 (a : Nat))]), (4, .rptr (actC (acAt k a)))] ((102, .cells 131 [.ptr 0 0]) :: wN k (mapRun (effM k a by_) w1 k.clauses.length)) 7000 132 (fun _ => false))
        (res := .tup []) (args' := [.ptr 1 0]) (s := .ready) (pend := none) (O' := itA k a by_ (mapRun (effM k a by_) w1 k.clauses.length)) (O := itA k a by_ w1) hR rfl trivial rfl (frL_length _ _) (frL_is frI) (fun L D fn => ?_) rfl frI rfl rfl frI rfl rfl (by simp) (fun L D fn cs => (Weak.of hN rfl rfl rfl frI frI)) ?_
      · rw [hE]
        refine runItA_ok k a by_ hk w1 (effM k a by_) L L (recOf fn _ _ _ D .ready none) (fun i hi hr => ?_)
        have hs := mapRun_succ (effM k a by_) w1 i
        rw [if_pos hr] at hs
        have hm0 : (mapRun (effM k a by_) w1 i).mark i = w1.mark i := mapRun_ge (Nat.lt_irrefl i)
        have hrf := hl1 i hi hr
        have hbd := (run_bd hk hi hrf).1
        rw [hs]
        generalize mapRun (effM k a by_) w1 i = w2 at *
        have fc2 : k.clauses.getD (i : Int).toNat default = clAt k i := rfl
        have hkw := kindW (hk.clB hi).2.2.1
        have hk4 : (clAt k i).kind = 1 ∨ (clAt k i).kind = 2 ∨ (clAt k i).kind = 3 ∨ (clAt k i).kind = 4 := by omega
        refine DoesR.mkT TT_ok (fun _ => false) 100 (ST.of [(2, .ptr 6 0), (3, .rptr [.c (.int .i64 (a : Nat))]), (6, .vptr 7 0 1 0 0), (7, .rptr [.c (.int .i64 by_)]), (8, .c (.int .i64 i))] ((0, .lrec (recOf fn _ _ _ D .ready none) L (csA k a by_)) :: itNA k a by_ w2) 1000 132 (fun _ => false)) rfl ?_ (Nat.le_refl 7) (fun E hT hE hN hR => ?_) rfl (fun E hT hE hN hR => ?_)
        · intro x hx
          simp only [List.mem_toArray, List.mem_singleton] at hx
          subst hx
          show 86 < (frL 132 _).length
          rw [frL_length]
          omega
        · have hm := mixO hE
          (repeat (first | refine XK.n ?_ | refine XK.a ?_ | refine XK.b ?_))
          exact XK.nil ⟨rfl, (Weak.of hN rfl rfl rfl frI frI)⟩
        · have hm := mixO hE
          unfold effM
          rw [← hm0] at hbd ⊢
          (repeat (first | refine XK.n ?_ | refine XK.a ?_ | refine XK.b ?_))
          rw [fc2]
          (repeat (first | refine XK.n ?_ | refine XK.a ?_ | refine XK.b ?_)); refine XK.cond rfl (fun h5 => ?_) (fun h5 => ?_)
          · have h5 : ((clAt k i).act == (a : Int) && ((clAt k i).kind == 4 || (w2.mark i).bearer == by_)) = true := h5
            rw [if_pos (show (clAt k i).act = (a : Int) ∧ ((clAt k i).kind = 4 ∨ (w2.mark i).bearer = by_) by simpa using h5)]
            refine XK.weak (Weak.of (L := [(2, .ptr 6 0), (3, .rptr [.c (.int .i64 (a : Nat))]), (6, .vptr 7 0 1 0 0), (7, .rptr [.c (.int .i64 by_)]), (8, .c (.int .i64 i)), (9, .ptr 1009 0)]) (O := (1009, .cells 48 (clC (clAt k i))) :: (0, .lrec (recOf fn _ _ _ D .busy none) L (csA k a by_)) :: itNA k a by_ w2) (nx := 2000) (nt := 132) (md := fun _ => false) hN rfl rfl rfl frI frI) ?_
            unfold doM
            rcases hk4 with h7 | h7 | h7 | h7
            · rw [if_pos h7, clC_kind h7]
              (repeat (first | refine XK.n ?_ | refine XK.a ?_ | refine XK.b ?_)); refine XK.drawn hm ?_; refine XD.goA hT rfl rfl rfl rfl ?_
              refine XD.callMA [2, 3, 4, 5] hE rfl rfl rfl rfl trivial (perform_ok k hk w2 i hi (by omega)) rfl rfl rfl rfl rfl ?_
              refine XD.goA hT rfl rfl rfl rfl ?_; refine XD.fin (by kernel_rfl) ?_; (repeat (first | refine XK.n ?_ | refine XK.a ?_ | refine XK.b ?_))
              (first | refine XK.outY [0, 1, 2, 3, 4, 5, 6, 7] hN rfl rfl rfl ?_ ?_ ?_ | refine XK.outYN [0, 1, 2, 3, 4, 5, 6, 7] hN rfl rfl rfl ?_ ?_ ?_)
              · (repeat' (first | exact rfl | exact AvIs.refl _ | exact trivial | exact fun _ _ => rfl | exact fun _ _ => ⟨rfl, AvIs.refl _⟩ | refine ⟨?_, ?_⟩))
              · rfl
              · rfl
            · rw [if_neg (by omega), if_pos h7, clC_kind h7]
              (repeat (first | refine XK.n ?_ | refine XK.a ?_ | refine XK.b ?_)); refine XK.drawn hm ?_; refine XD.goA hT rfl rfl rfl rfl ?_
              refine XD.callMA [2, 3, 4, 5] hE rfl rfl rfl rfl trivial (violate_ok k w2 i hi) rfl rfl rfl rfl rfl ?_
              refine XD.goA hT rfl rfl rfl rfl ?_; refine XD.fin (by kernel_rfl) ?_; (repeat (first | refine XK.n ?_ | refine XK.a ?_ | refine XK.b ?_))
              (first | refine XK.outY [0, 1, 2, 3, 4, 5, 6, 7] hN rfl rfl rfl ?_ ?_ ?_ | refine XK.outYN [0, 1, 2, 3, 4, 5, 6, 7] hN rfl rfl rfl ?_ ?_ ?_)
              · (repeat' (first | exact rfl | exact AvIs.refl _ | exact trivial | exact fun _ _ => rfl | exact fun _ _ => ⟨rfl, AvIs.refl _⟩ | refine ⟨?_, ?_⟩))
              · rfl
              · rfl
            · rw [if_neg (by omega), if_neg (by omega), clC_kind h7]
              (repeat (first | refine XK.n ?_ | refine XK.a ?_ | refine XK.b ?_)); refine XK.drawn hm ?_; refine XD.goA hT rfl rfl rfl rfl ?_
              refine XD.callMA [2, 3, 4, 5] hE rfl rfl rfl rfl trivial (done_ok k w2 i hi) rfl rfl rfl rfl rfl ?_
              refine XD.goA hT rfl rfl rfl rfl ?_; refine XD.fin (by kernel_rfl) ?_; (repeat (first | refine XK.n ?_ | refine XK.a ?_ | refine XK.b ?_))
              (first | refine XK.outY [0, 1, 2, 3, 4, 5, 6, 7] hN rfl rfl rfl ?_ ?_ ?_ | refine XK.outYN [0, 1, 2, 3, 4, 5, 6, 7] hN rfl rfl rfl ?_ ?_ ?_)
              · (repeat' (first | exact rfl | exact AvIs.refl _ | exact trivial | exact fun _ _ => rfl | exact fun _ _ => ⟨rfl, AvIs.refl _⟩ | refine ⟨?_, ?_⟩))
              · rfl
              · rfl
            · rw [if_neg (by omega), if_neg (by omega), clC_kind h7]
              (repeat (first | refine XK.n ?_ | refine XK.a ?_ | refine XK.b ?_)); refine XK.drawn hm ?_; refine XD.goA hT rfl rfl rfl rfl ?_
              refine XD.callMA [2, 3, 4, 5] hE rfl rfl rfl rfl trivial (done_ok k w2 i hi) rfl rfl rfl rfl rfl ?_
              refine XD.goA hT rfl rfl rfl rfl ?_; refine XD.fin (by kernel_rfl) ?_; (repeat (first | refine XK.n ?_ | refine XK.a ?_ | refine XK.b ?_))
              (first | refine XK.outY [0, 1, 2, 3, 4, 5, 6, 7] hN rfl rfl rfl ?_ ?_ ?_ | refine XK.outYN [0, 1, 2, 3, 4, 5, 6, 7] hN rfl rfl rfl ?_ ?_ ?_)
              · (repeat' (first | exact rfl | exact AvIs.refl _ | exact trivial | exact fun _ _ => rfl | exact fun _ _ => ⟨rfl, AvIs.refl _⟩ | refine ⟨?_, ?_⟩))
              · rfl
              · rfl
          · have h5 : ((clAt k i).act == (a : Int) && ((clAt k i).kind == 4 || (w2.mark i).bearer == by_)) = false := h5
            rw [if_neg (show ¬ ((clAt k i).act = (a : Int) ∧ ((clAt k i).kind = 4 ∨ (w2.mark i).bearer = by_)) by simpa using h5), upM_self]
            (repeat (first | refine XK.n ?_ | refine XK.a ?_ | refine XK.b ?_))
            (first | refine XK.outY [0, 1, 2, 3, 4, 5, 6, 7] hN rfl rfl rfl ?_ ?_ ?_ | refine XK.outYN [0, 1, 2, 3, 4, 5, 6, 7] hN rfl rfl rfl ?_ ?_ ?_)
            · (repeat' (first | exact rfl | exact AvIs.refl _ | exact trivial | exact fun _ _ => rfl | exact fun _ _ => ⟨rfl, AvIs.refl _⟩ | refine ⟨?_, ?_⟩))
            · rfl
            · rfl
      · generalize mapRun (effM k a by_) w1 k.clauses.length = w3 at *
        have hpG : preG k w a = if (acAt k a).kind ≠ 1 then giveW k w3 a else w3 := by rw [← hpre]; rfl
        rw [hpG]
        (repeat (first | refine XK.n ?_ | refine XK.a ?_ | refine XK.b ?_)); refine XK.cond rfl (fun h9 => ?_) (fun h9 => ?_) <;> (try simp at h9)
        · rw [if_pos h9]
          (repeat (first | refine XK.n ?_ | refine XK.a ?_ | refine XK.b ?_))
          (repeat (first | refine XK.n ?_ | refine XK.a ?_ | refine XK.b ?_)); refine XK.region ?_; refine XL.g ?_
          refine XL.callMA [0, 1, 2, 3] hE rfl rfl rfl rfl trivial (wshift_ok k hk w3 a ha h9) rfl rfl rfl rfl rfl ?_
          refine XL.g ?_; refine XL.fin ?_; (repeat (first | refine XK.n ?_ | refine XK.a ?_ | refine XK.b ?_))
          (repeat (first | refine XK.n ?_ | refine XK.a ?_ | refine XK.b ?_)); refine XK.region ?_; refine XL.g ?_
          refine XL.callMA [0, 1, 2, 3] hE rfl rfl rfl rfl trivial (wstart_ok k hk (giveW k w3 a)) rfl rfl rfl rfl rfl ?_
          refine XL.g ?_; refine XL.fin ?_; (repeat (first | refine XK.n ?_ | refine XK.a ?_ | refine XK.b ?_))
          (first | refine XK.outR [0, 1, 2, 3] hN rfl rfl rfl ?_ rfl rfl ?_ | refine XK.outRN [0, 1, 2, 3] hN rfl rfl rfl ?_ rfl rfl ?_)
          · (repeat' (first | exact rfl | exact AvIs.refl _ | exact trivial | exact fun _ _ => rfl | exact fun _ _ => ⟨rfl, AvIs.refl _⟩ | refine ⟨?_, ?_⟩))
          · (repeat' (first | exact rfl | exact AvIs.refl _ | exact trivial | exact fun _ _ => rfl | exact fun _ _ => ⟨rfl, AvIs.refl _⟩ | refine ⟨?_, ?_⟩))
        · rw [if_neg (by simpa using h9)]
          (repeat (first | refine XK.n ?_ | refine XK.a ?_ | refine XK.b ?_))
          (repeat (first | refine XK.n ?_ | refine XK.a ?_ | refine XK.b ?_)); refine XK.region ?_; refine XL.g ?_
          refine XL.callMA [0, 1, 2, 3] hE rfl rfl rfl rfl trivial (wstart_ok k hk w3) rfl rfl rfl rfl rfl ?_
          refine XL.g ?_; refine XL.fin ?_; (repeat (first | refine XK.n ?_ | refine XK.a ?_ | refine XK.b ?_))
          (first | refine XK.outR [0, 1, 2, 3] hN rfl rfl rfl ?_ rfl rfl ?_ | refine XK.outRN [0, 1, 2, 3] hN rfl rfl rfl ?_ rfl rfl ?_)
          · (repeat' (first | exact rfl | exact AvIs.refl _ | exact trivial | exact fun _ _ => rfl | exact fun _ _ => ⟨rfl, AvIs.refl _⟩ | refine ⟨?_, ?_⟩))
          · (repeat' (first | exact rfl | exact AvIs.refl _ | exact trivial | exact fun _ _ => rfl | exact fun _ _ => ⟨rfl, AvIs.refl _⟩ | refine ⟨?_, ?_⟩))
end Go.Proofs.YtlhmgphgnedlkaaGreat
end
section
/- Contracts: package system: Start and Step. -/
namespace Go.Proofs.YtlhmgphgnedlkaaGreat
open Go.Eng
set_option maxRecDepth 10000
def outS (k : K) (w : Wk) : St := ⟨w.day, (List.range k.holders.length).map w.hold, (List.range k.acts.length).map w.used, (List.range k.clauses.length).map w.mark⟩
def zS : St := ⟨0, [], [], []⟩
noncomputable def stepS (k : K) (s : St) (t : Int) : St × Int := if (!validS k s || decide (t < -1) || decide ((k.acts.length : Int) ≤ t)) = true then (zS, 1) else if s.day = k.days then (zS, 13) else (outS k (stepW k s.wk t), 0)
def sr (r : St × Int) : AV := .tup [stV r.1, .c (.int .i64 r.2)]
def nilS : AV := .agg [.c (.int .i64 0), .c (.slice none 0 0), .c (.slice none 0 0), .c (.slice none 0 0)]
def rawS (k : K) (w : Wk) : AV := .agg [.c (.int .i64 w.day), .rs 1 k.holders.length (fun i => [.c (.int .i64 (w.hold i))]), .rs 1 k.acts.length (fun i => [.c (.bool (w.used i))]), .rs 5 k.clauses.length (fun i => mkC (w.mark i))]
theorem map_getD {β : Type} [Inhabited β] (f : Nat → β) {n i : Nat} (h : i < n) : ((List.range n).map f).getD i default = f i := by
  simp [List.getD, h]
theorem AvS.tup {l l' : List AV} (h : AvSL l l') : AvS (.tup l) (.tup l') := by
  intro w G ρ v hr
  obtain ⟨h1, h2⟩ := h.at_
  obtain ⟨cs, rfl, hs, hc⟩ : ∃ cs, v = .tuple cs ∧ cs.size = l.length ∧ ∀ i a, l[i]? = some a → R w G ρ a (cs.getD i undef) := by
    cases hr with
    | tup hs hc => exact ⟨_, rfl, hs, hc⟩
  refine .tup (by omega) fun i y hy => ?_
  obtain ⟨x, hx, hxy⟩ := h2 i y hy
  exact hxy _ _ _ _ (hc i x hx)
theorem outS_is (k : K) (w : Wk) : AvS (.tup [rawS k w, .c (.int .i64 0)]) (.tup [stV (outS k w), .c (.int .i64 0)]) := by
  have rs {sz n m : Nat} {f g : Nat → List AV} (h : m = n) (h2 : ∀ i, i < n → f i = g i) : AvS (.rs sz n f) (.rs sz m g) := by
    subst h
    exact AvS.rs fun i hi => by rw [h2 i hi]; exact AvSL.refl _
  refine AvS.tup ⟨AvS.agg ⟨AvS.refl _, rs (by simp [outS]) fun i hi => ?_, rs (by simp [outS]) fun i hi => ?_, rs (by simp [outS]) fun i hi => ?_, trivial⟩, AvS.refl _, trivial⟩
  · show _ = iC (((List.range k.holders.length).map w.hold).getD i default)
    rw [map_getD _ hi]; rfl
  · show _ = bC (((List.range k.acts.length).map w.used).getD i default)
    rw [map_getD _ hi]; rfl
  · show _ = mkC (((List.range k.clauses.length).map w.mark).getD i default)
    rw [map_getD _ hi]
theorem stepErr_ok (k : K) (hk : kW k) (s : St) (t : Int) (h : (!validS k s || decide (t < -1) || decide ((k.acts.length : Int) ≤ t)) = true) : Does Tryz.prog 33 [kV k, stV s, .c (.int .i64 t)] (.tup [nilS, .c (.int .i64 1)]) := by
  refine Does.mk (fun _ => false) TT_ok Tryz.func33 rfl (by kernel_rfl) Tryz.ntmps33 rfl rfl fun E hT hE hN hR => ?_
  have hm := mixO hE
  (repeat (first | refine XK.n ?_ | refine XK.a ?_ | refine XK.b ?_)); refine XK.region ?_; refine XL.g ?_
  refine XL.callLA hE rfl rfl rfl rfl trivial rfl (validS_ok k hk s) rfl ?_
  refine XL.g ?_; refine XL.fin ?_; (repeat (first | refine XK.n ?_ | refine XK.a ?_ | refine XK.b ?_))
  (repeat (first | refine XK.n ?_ | refine XK.a ?_ | refine XK.b ?_)); refine XK.cond rfl (fun h1 => ?_) (fun h1 => ?_)
  · (repeat (first | refine XK.n ?_ | refine XK.a ?_ | refine XK.b ?_))
    (first | refine XK.out rfl rfl rfl ?_ | refine XK.outN rfl rfl rfl ?_)
    rfl
  · have h1 : (!validS k s || decide (t < -1) || decide ((k.acts.length : Int) ≤ t)) = false := h1
    rw [h] at h1
    cases h1
theorem stepEnd_ok (k : K) (hk : kW k) (s : St) (t : Int) (h : (!validS k s || decide (t < -1) || decide ((k.acts.length : Int) ≤ t)) = false) (hd : s.day = k.days) : Does Tryz.prog 33 [kV k, stV s, .c (.int .i64 t)] (.tup [nilS, .c (.int .i64 13)]) := by
  refine Does.mk (fun _ => false) TT_ok Tryz.func33 rfl (by kernel_rfl) Tryz.ntmps33 rfl rfl fun E hT hE hN hR => ?_
  have hm := mixO hE
  (repeat (first | refine XK.n ?_ | refine XK.a ?_ | refine XK.b ?_)); refine XK.region ?_; refine XL.g ?_
  refine XL.callLA hE rfl rfl rfl rfl trivial rfl (validS_ok k hk s) rfl ?_
  refine XL.g ?_; refine XL.fin ?_; (repeat (first | refine XK.n ?_ | refine XK.a ?_ | refine XK.b ?_))
  (repeat (first | refine XK.n ?_ | refine XK.a ?_ | refine XK.b ?_)); refine XK.cond rfl (fun h1 => ?_) (fun h1 => ?_)
  · have h1 : (!validS k s || decide (t < -1) || decide ((k.acts.length : Int) ≤ t)) = true := h1
    rw [h] at h1
    cases h1
  · (repeat (first | refine XK.n ?_ | refine XK.a ?_ | refine XK.b ?_)); refine XK.cond rfl (fun h2 => ?_) (fun h2 => ?_) <;> (try simp at h2)
    · (repeat (first | refine XK.n ?_ | refine XK.a ?_ | refine XK.b ?_))
      (first | refine XK.out rfl rfl rfl ?_ | refine XK.outN rfl rfl rfl ?_)
      rfl
    · exact absurd hd h2
theorem validS_W {k : K} {s : St} (h : validS k s = true) : WOk k s.wk := by
  obtain ⟨h1, h2, h3, h4, h5, h6, h7, h8⟩ := validS_len h
  refine ⟨h5, fun i hi => h6 i (by omega), fun i hi hu => ?_, fun i hi => ?_, fun i hi => ?_⟩
  · have := h7 i (by omega)
    have hu : s.used.getD i default = true := hu
    rw [hu] at this
    simpa using this
  · have := h8 i (by omega)
    simp only [Bool.and_eq_true] at this
    exact this.1
  · have := h8 i (by omega)
    simp only [Bool.and_eq_true, Bool.not_eq_true'] at this
    exact this.2
theorem stepGo_ok (k : K) (hk : kW k) (s : St) (t : Int) (h : (!validS k s || decide (t < -1) || decide ((k.acts.length : Int) ≤ t)) = false) (hd : s.day ≠ k.days) : Does Tryz.prog 33 [kV k, stV s, .c (.int .i64 t)] (.tup [rawS k (stepW k s.wk t), .c (.int .i64 0)]) := by
  refine Does.mk (fun _ => false) TT_ok Tryz.func33 rfl (by kernel_rfl) Tryz.ntmps33 rfl rfl fun E hT hE hN hR => ?_
  have hm := mixO hE
  have h' := h
  simp only [Bool.or_eq_false_iff, Bool.not_eq_false', decide_eq_false_iff_not] at h'
  obtain ⟨⟨hv, ht1⟩, ht2⟩ := h'
  have hl := validS_len hv
  have hF := (show kOk k from ⟨hk, hl.1⟩).facts
  have hW := validS_W hv
  (repeat (first | refine XK.n ?_ | refine XK.a ?_ | refine XK.b ?_)); refine XK.region ?_; refine XL.g ?_
  refine XL.callLA hE rfl rfl rfl rfl trivial rfl (validS_ok k hk s) rfl ?_
  refine XL.g ?_; refine XL.fin ?_; (repeat (first | refine XK.n ?_ | refine XK.a ?_ | refine XK.b ?_))
  (repeat (first | refine XK.n ?_ | refine XK.a ?_ | refine XK.b ?_)); refine XK.cond rfl (fun h1 => ?_) (fun h1 => ?_)
  · have h1 : (!validS k s || decide (t < -1) || decide ((k.acts.length : Int) ≤ t)) = true := h1
    rw [h] at h1
    cases h1
  · (repeat (first | refine XK.n ?_ | refine XK.a ?_ | refine XK.b ?_)); refine XK.cond rfl (fun h2 => ?_) (fun h2 => ?_) <;> (try simp at h2)
    · exact absurd h2 hd
    · obtain ⟨l1, l2, l3, l4, l5, -⟩ := hl
      have b1 := hF.nh
      have b2 := hF.na
      have b3 := hF.nc
      (repeat (first | refine XK.n ?_ | refine XK.a ?_ | refine XK.b ?_))
      refine XK.weak (Weak.of (L := [(2, .c (.int .i64 t)), (6, .ptr 6 0), (7, .c (.int .i64 0)), (8, .ptr 300 0), (74, .c (.bool (t == -1)))]) (O := (6, .cells 41 [.c (.int .i64 0), .c (.slice none 0 0), .c (.slice none 0 0), .c (.slice none 0 0)]) :: (300, wO k s.wk 289 293 297) :: (289, wHold k s.wk) :: (293, wUsed k s.wk) :: (297, wMark k s.wk) :: []) (nx := 1000) (nt := 84) (md := fun _ => false) hN rfl rfl rfl frI ⟨frI, frI, ⟨⟨rfl, rfl, rfl⟩, l2, fun i hi => (cpF_lt (m := s.holders.length) (f := fun i => [.c (.int .i64 (s.holders.getD i default))]) hi).symm⟩, ⟨⟨rfl, rfl, rfl⟩, l3, fun i hi => (cpF_lt (m := s.used.length) (f := fun i => [.c (.bool (s.used.getD i default))]) hi).symm⟩, ⟨⟨rfl, rfl, rfl⟩, l4, fun i hi => (cpF_lt (m := s.marks.length) (f := fun i => mkC (s.marks.getD i default)) hi).symm⟩⟩) ?_
      have hrun : ∀ i, i < k.clauses.length → runsM (s.wk.mark i) = true → RunF k (clAt k i) (s.wk.mark i) := fun i hi hr => (markB_run hr).1 (hW.mark i hi)
      have hdw : s.wk.day = s.day := rfl
      have hdd := hF.days
      (repeat (first | refine XK.n ?_ | refine XK.a ?_ | refine XK.b ?_)); refine XK.cond rfl (fun h3 => ?_) (fun h3 => ?_) <;> (try simp at h3)
      · have hst : stepW k s.wk t = tickW k s.wk := by unfold stepW; rw [if_pos h3]
        rw [hst]
        (repeat (first | refine XK.n ?_ | refine XK.a ?_ | refine XK.b ?_))
        (repeat (first | refine XK.n ?_ | refine XK.a ?_ | refine XK.b ?_)); refine XK.region ?_; refine XL.g ?_
        refine XL.callMA [300, 289, 293, 297] hE rfl rfl rfl rfl trivial (wtick_ok k hF s.wk (by rw [hdw]; omega) hrun) rfl rfl rfl rfl rfl ?_
        refine XL.g ?_; refine XL.fin ?_; (repeat (first | refine XK.n ?_ | refine XK.a ?_ | refine XK.b ?_))
        generalize tickW k s.wk = w' at *
        refine XK.weak (Weak.trans (Weak.of (L := [(6, .ptr 6 0), (7, .c (.int .i64 0))]) (O := (6, .cells 41 [.c (.int .i64 w'.day), .vec 289 0, .vec 293 0, .vec 297 0]) :: (289, wHold k w') :: (293, wUsed k w') :: (297, wMark k w') :: []) (nx := 5000) (nt := 84) (md := fun _ => false) hN rfl rfl rfl frI frI)
          (Weak.trans (Weak.frozen (k := 289) hN rfl rfl) (Weak.trans (Weak.frozen (k := 293) hN rfl rfl) (Weak.frozen (k := 297) hN rfl rfl)))) ?_
        (first | refine XK.out rfl rfl rfl ?_ | refine XK.outN rfl rfl rfl ?_)
        rfl
      · obtain ⟨n, rfl⟩ : ∃ n : Nat, t = (n : Int) := ⟨t.toNat, by omega⟩
        have hst : stepW k s.wk (n : Int) = actW' k s.wk n := by unfold stepW; rw [if_neg h3]; rfl
        rw [hst]
        (repeat (first | refine XK.n ?_ | refine XK.a ?_ | refine XK.b ?_))
        (repeat (first | refine XK.n ?_ | refine XK.a ?_ | refine XK.b ?_)); refine XK.region ?_; refine XL.g ?_
        refine XL.callMA [300, 289, 293, 297] hE rfl rfl rfl rfl trivial (wact_ok k hF s.wk n (by omega) hrun) rfl rfl rfl rfl rfl ?_
        refine XL.g ?_; refine XL.fin ?_; (repeat (first | refine XK.n ?_ | refine XK.a ?_ | refine XK.b ?_))
        generalize actW' k s.wk n = w' at *
        refine XK.weak (Weak.trans (Weak.of (L := [(6, .ptr 6 0), (7, .c (.int .i64 0))]) (O := (6, .cells 41 [.c (.int .i64 w'.day), .vec 289 0, .vec 293 0, .vec 297 0]) :: (289, wHold k w') :: (293, wUsed k w') :: (297, wMark k w') :: []) (nx := 5000) (nt := 84) (md := fun _ => false) hN rfl rfl rfl frI frI)
          (Weak.trans (Weak.frozen (k := 289) hN rfl rfl) (Weak.trans (Weak.frozen (k := 293) hN rfl rfl) (Weak.frozen (k := 297) hN rfl rfl)))) ?_
        (first | refine XK.out rfl rfl rfl ?_ | refine XK.outN rfl rfl rfl ?_)
        rfl
theorem stepS_ok (k : K) (hk : kW k) (s : St) (t : Int) : Does Tryz.prog 33 [kV k, stV s, .c (.int .i64 t)] (sr (stepS k s t)) := by
  have nil (e : Int) : AvS (.tup [nilS, .c (.int .i64 e)]) (sr (zS, e)) := AvS.tup ⟨AvS.agg ⟨AvS.refl _, AvS.nil, AvS.nil, AvS.nil, trivial⟩, AvS.refl _, trivial⟩
  unfold stepS
  split
  · rename_i h
    exact (stepErr_ok k hk s t h).weaken (nil 1)
  · rename_i h
    have h : (!validS k s || decide (t < -1) || decide ((k.acts.length : Int) ≤ t)) = false := Bool.eq_false_iff.2 h
    split
    · rename_i h2
      exact (stepEnd_ok k hk s t h h2).weaken (nil 13)
    · rename_i h2
      exact (stepGo_ok k hk s t h h2).weaken (outS_is k _)
end Go.Proofs.YtlhmgphgnedlkaaGreat
end
