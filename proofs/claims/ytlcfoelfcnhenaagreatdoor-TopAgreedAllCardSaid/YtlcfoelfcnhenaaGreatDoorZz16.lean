import Derived.Test.YtlcfoelfcnhenaaGreatDoorZz14
import Derived.Test.YtlcfoelfcnhenaaGreatDoorTys
import Derived.KernelRfl
import Derived.Lib.Mul64
import Derived.Laws.Bits64b
set_option linter.unusedSimpArgs false
set_option linter.unusedVariables false
set_option maxRecDepth 10000
namespace Go.Proofs.YtlcfoelfcnhenaaGreatDoor
section
open Go.Eng
theorem tdiv_nn (a b : Nat) : Int.tdiv (a : Int) (b : Int) = ((a / b : Nat) : Int) := rfl
theorem tmod_nn (a b : Nat) : Int.tmod (a : Int) (b : Int) = ((a % b : Nat) : Int) := rfl
theorem cI {k : IntKind} {a b : Int} (h : a = b) : AV.c (.int k a) = AV.c (.int k b) := by rw [h]
theorem cB {a b : Bool} (h : a = b) : AV.c (.bool a) = AV.c (.bool b) := by rw [h]
theorem magnitude_ok (n : Int) (h : inK .i64 n) : Does Tryz.prog 179 [.c (.int .i64 n)] (.c (.int .u64 (n.natAbs : Int))) := by
  refine Does.mk (fun _ => false) TT_ok Tryz.func179 rfl (by kernel_rfl) Tryz.ntmps179 rfl rfl fun E hT hE hN hR => ?_
  have hm := mixO hE
  simp only [inK] at h
  (repeat (first | refine XK.n ?_ | refine XK.a ?_ | refine XK.b ?_))
  (repeat (first | refine XK.n ?_ | refine XK.a ?_ | refine XK.b ?_)); refine XK.cond rfl (fun hb => ?_) (fun hb => ?_)
  · have hn : n < 0 := by simpa using hb
    (repeat (first | refine XK.n ?_ | refine XK.a ?_ | refine XK.b ?_))
    (repeat (first | refine XK.n ?_ | refine XK.a ?_ | refine XK.b ?_))
    exact XK.ret (RetQ.ret rfl rfl (cI (by omega)))
  · have hn : ¬ n < 0 := by simpa using hb
    (repeat (first | refine XK.n ?_ | refine XK.a ?_ | refine XK.b ?_))
    (repeat (first | refine XK.n ?_ | refine XK.a ?_ | refine XK.b ?_))
    exact XK.ret (RetQ.ret rfl rfl (cI (by omega)))
def gcdTo (g : Nat → Nat) : Nat → Nat
  | 0 => 0
  | n + 1 => Nat.gcd (gcdTo g n) (g n)
theorem divisor_ok (g : Nat → Nat) (n : Nat) (hg : ∀ i, i < n → g i ≤ 18446744073709551615) : Does Tryz.prog 178 [.rs 1 n (fun i => [.c (.int .u64 (g i))])] (.c (.int .u64 (gcdTo g n : Nat))) := by
  refine Does.mk (fun _ => false) TT_ok Tryz.func178 rfl (by kernel_rfl) Tryz.ntmps178 rfl rfl fun E hT hE hN hR => ?_
  have hm := mixO hE
  refine XK.fact (Sat.rs_len (j := 0) rfl) fun hlen => ?_
  have hn := hlen.1
  have hG : ∀ i, i ≤ n → gcdTo g i ≤ 18446744073709551615 := by
    intro i hi
    induction i with
    | zero => simp [gcdTo]
    | succ i ih =>
      have h1 := ih (by omega)
      have h2 := hg i (by omega)
      simp only [gcdTo]
      by_cases h0 : gcdTo g i = 0
      · rw [h0]; simpa using h2
      · exact Nat.le_trans (Nat.gcd_le_left _ (Nat.pos_of_ne_zero h0)) h1
  (repeat (first | refine XK.n ?_ | refine XK.a ?_ | refine XK.b ?_))
  refine XK.loop (ι := Nat) (fun i => ST.of [(3, .c (.int .u64 (gcdTo g i))), (6, .rs 1 n (fun i => [.c (.int .u64 (g i))])), (7, .c (.int .i64 n)), (8, .c (.int .i64 i))] [] 1000 20 (fun _ => false))
    (fun i => i ≤ n) (fun i => n - i) 0 (by omega) (Weak.of hN rfl rfl rfl ⟨rfl, ⟨rfl, rfl, fun _ _ => rfl⟩, rfl, rfl⟩ trivial) fun i hi => ?_
  (repeat (first | refine XK.n ?_ | refine XK.a ?_ | refine XK.b ?_))
  (repeat (first | refine XK.n ?_ | refine XK.a ?_ | refine XK.b ?_)); refine XK.cond rfl (fun hb => ?_) (fun hb => ?_)
  · have hlt : i < n := by simpa using hb
    (repeat (first | refine XK.n ?_ | refine XK.a ?_ | refine XK.b ?_))
    (repeat (first | refine XK.n ?_ | refine XK.a ?_ | refine XK.b ?_))
    (repeat (first | refine XK.n ?_ | refine XK.a ?_ | refine XK.b ?_))
    refine XK.loop (ι := Nat × Nat) (fun p => ST.of [(3, .c (.int .u64 p.1)), (5, .c (.int .u64 p.2)), (6, .rs 1 n (fun i => [.c (.int .u64 (g i))])), (7, .c (.int .i64 n)), (8, .c (.int .i64 i))] [] 1000 20 (fun _ => false))
      (fun p => p.1 ≤ 18446744073709551615 ∧ p.2 ≤ 18446744073709551615 ∧ Nat.gcd p.1 p.2 = gcdTo g (i + 1)) (fun p => p.2) (gcdTo g i, g i) ⟨hG i (by omega), hg i hlt, rfl⟩
      (Weak.of hN rfl rfl rfl ⟨rfl, rfl, ⟨rfl, rfl, fun _ _ => rfl⟩, rfl, rfl⟩ trivial) fun p hp => ?_
    obtain ⟨x, y⟩ := p
    obtain ⟨h1, h2, h3⟩ := hp
    simp only at h1 h2 h3
    (repeat (first | refine XK.n ?_ | refine XK.a ?_ | refine XK.b ?_))
    (repeat (first | refine XK.n ?_ | refine XK.a ?_ | refine XK.b ?_)); refine XK.cond rfl (fun hb => ?_) (fun hb => ?_)
    · have hy : y ≠ 0 := by simpa using hb
      (repeat (first | refine XK.n ?_ | refine XK.a ?_ | refine XK.b ?_))
      (repeat (first | refine XK.n ?_ | refine XK.a ?_ | refine XK.b ?_))
      (repeat (first | refine XK.n ?_ | refine XK.a ?_ | refine XK.b ?_))
      refine XK.inv ⟨(y, x % y), ⟨h2, ?_, ?_⟩, Weak.of hN rfl rfl rfl ⟨?_, ?_, ⟨rfl, rfl, fun _ _ => rfl⟩, rfl, rfl⟩ trivial, ?_⟩
      · exact Nat.le_trans (Nat.le_of_lt (Nat.mod_lt _ (Nat.pos_of_ne_zero hy))) h2
      · rw [← h3, Nat.gcd_comm x y, Nat.gcd_rec y x, Nat.gcd_comm]
      · rfl
      · rfl
      · exact Nat.mod_lt _ (Nat.pos_of_ne_zero hy)
    · have hy : y = 0 := by simpa using hb
      subst hy
      (repeat (first | refine XK.n ?_ | refine XK.a ?_ | refine XK.b ?_))
      (repeat (first | refine XK.n ?_ | refine XK.a ?_ | refine XK.b ?_))
      refine XK.inv ⟨i + 1, hlt, Weak.of hN rfl rfl rfl ⟨?_, ⟨rfl, rfl, fun _ _ => rfl⟩, rfl, rfl⟩ trivial, ?_⟩
      · rw [← h3]; simp [AvIs]; rfl
      · omega
  · have : i = n := by
      have : ¬ i < n := by simpa using hb
      omega
    subst this
    (repeat (first | refine XK.n ?_ | refine XK.a ?_ | refine XK.b ?_))
    exact XK.ret (RetQ.ret rfl rfl rfl)
end
section
open Go.Eng
theorem gcd2 (a b : Nat) : gcdTo (fun i => if i = 0 then a else b) 2 = Nat.gcd a b := by simp [gcdTo]
theorem valid_ok (q : Q) (h : qW q) : Does Tryz.prog 158 [qv q] (.c (.bool (qOk q))) := by
  refine Does.mk (fun _ => false) TT_ok Tryz.func158 rfl (by kernel_rfl) Tryz.ntmps158 rfl rfl fun E hT hE hN hR => ?_
  have hm := mixO hE
  obtain ⟨n, d⟩ := q
  obtain ⟨h1, h2⟩ := h
  simp only [inK] at h1 h2
  (repeat (first | refine XK.n ?_ | refine XK.a ?_ | refine XK.b ?_)); refine XK.cond rfl (fun hb => ?_) (fun hb => ?_)
  · (repeat (first | refine XK.n ?_ | refine XK.a ?_ | refine XK.b ?_))
    (first | refine XK.o ?_ | refine XK.p ?_)
    congr 2
    simp only [Bool.or_eq_true, decide_eq_true_eq] at hb
    simp only [qOk]
    symm
    simp only [decide_eq_false_iff_not]
    omega
  · simp only [Bool.or_eq_false_iff, decide_eq_false_iff_not] at hb
    (repeat (first | refine XK.n ?_ | refine XK.a ?_ | refine XK.b ?_)); refine XK.drawn hm ?_; refine XD.goA hT rfl rfl rfl rfl ?_
    refine XD.callL hE rfl rfl rfl rfl trivial rfl (magnitude_ok n h1) ?_ rfl ?_
    · exact rfl
    refine XD.goA hT rfl rfl rfl rfl ?_
    refine XD.callL hE rfl rfl rfl rfl trivial rfl (magnitude_ok d h2) ?_ rfl ?_
    · exact rfl
    refine XD.goA hT rfl rfl rfl rfl ?_
    refine XD.callL hE rfl rfl rfl rfl trivial rfl (divisor_ok (fun i => if i = 0 then n.natAbs else d.natAbs) 2 (fun i hi => by split <;> omega)) ?_ rfl ?_
    · refine ⟨rfl, rfl, fun i hi => ?_⟩
      match i, hi with
      | 0, _ => rfl
      | 1, _ => rfl
    rw [gcd2]
    refine XD.goA hT rfl rfl rfl rfl ?_; refine XD.fin (by kernel_rfl) ?_; (repeat (first | refine XK.n ?_ | refine XK.a ?_ | refine XK.b ?_))
    (repeat (first | refine XK.n ?_ | refine XK.a ?_ | refine XK.b ?_))
    (first | refine XK.o ?_ | refine XK.p ?_)
    congr 2
    rw [Bool.eq_iff_iff, qOk_iff]
    simp only [beq_iff_eq]
    omega
end
section
open Go.Eng
end
section
open Go.Eng
theorem isIndex_ok (n : Nat) (t : Nat → U) (i : Int) : Does Tryz.prog 177 [tabV n t, .c (.int .i64 i)] (.c (.bool (decide (0 ≤ i) && decide (i < n)))) := by
  refine Does.mk (fun _ => false) TT_ok Tryz.func177 rfl (by kernel_rfl) Tryz.ntmps177 rfl rfl fun E hT hE hN hR => ?_
  have hm := mixO hE
  (repeat (first | refine XK.n ?_ | refine XK.a ?_ | refine XK.b ?_))
  (first | refine XK.o ?_ | refine XK.p ?_)
  rfl
set_option maxHeartbeats 1000000 in
theorem uvalid_ok (n : Nat) (t : Nat → U) (i : Nat) (hi : i < n) (hw : ∀ j, j < n → uW (t j)) : Does Tryz.prog 157 [tabV n t, .c (.int .i64 i)] (.c (.bool (uOkB t n i))) := by
  refine Does.mk (fun _ => false) TT_ok Tryz.func157 rfl (by kernel_rfl) Tryz.ntmps157 rfl rfl fun E hT hE hN hR => ?_
  have hm := mixO hE
  refine XK.fact (Sat.rs_len (j := 0) rfl) fun hlen => ?_
  have hn := hlen.1
  have hui := hw i hi
  (repeat (first | refine XK.n ?_ | refine XK.a ?_ | refine XK.b ?_))
  (repeat (first | refine XK.n ?_ | refine XK.a ?_ | refine XK.b ?_)); refine XK.cond rfl (fun hb => ?_) (fun hb => ?_)
  · (repeat (first | refine XK.n ?_ | refine XK.a ?_ | refine XK.b ?_))
    (first | refine XK.o ?_ | refine XK.p ?_)
    refine cB ?_
    symm
    rw [uOkB_false]
    simp only [Bool.or_eq_true, decide_eq_true_eq, bytes_beq] at hb
    rintro ⟨⟨h1, h2, _⟩, _⟩
    rcases hb with hb | hb
    · omega
    · exact h2 hb
  · simp only [Bool.or_eq_false_iff, decide_eq_false_iff_not, bytes_bne] at hb
    obtain ⟨hb1, hb2⟩ := hb
    have hb2 : (t i).name ≠ emptyName := hb2
    (repeat (first | refine XK.n ?_ | refine XK.a ?_ | refine XK.b ?_))
    (repeat (first | refine XK.n ?_ | refine XK.a ?_ | refine XK.b ?_))
    refine XK.loop (ι := Nat) (fun j => ST.of [(0, tabV n t), (1, .c (.int .i64 i)), (5, .ptr 95 0), (21, .rs 5 i (fun j => uc (t j))), (22, .c (.int .i64 i)), (23, .c (.int .i64 j))] [(95, .cells 113 (uc (t i)))] 1000 90 (fun _ => false))
      (fun j => j ≤ i ∧ ∀ k, k < j → (t k).name ≠ (t i).name) (fun j => i - j) 0 ⟨by omega, fun k hk => absurd hk (by omega)⟩
      (Weak.of hN rfl rfl rfl ⟨AvIs.refl _, rfl, rfl, ⟨rfl, rfl, fun j hj => rfl⟩, rfl, rfl⟩ ⟨rfl, rfl⟩) fun j hj => ?_
    obtain ⟨hj1, hj2⟩ := hj
    (repeat (first | refine XK.n ?_ | refine XK.a ?_ | refine XK.b ?_)); refine XK.cond rfl (fun hb => ?_) (fun hb => ?_)
    · have hlt : j < i := by simpa using hb
      (repeat (first | refine XK.n ?_ | refine XK.a ?_ | refine XK.b ?_))
      (repeat (first | refine XK.n ?_ | refine XK.a ?_ | refine XK.b ?_)); refine XK.cond rfl (fun hb => ?_) (fun hb => ?_)
      · (repeat (first | refine XK.n ?_ | refine XK.a ?_ | refine XK.b ?_))
        (first | refine XK.o ?_ | refine XK.p ?_)
        refine cB ?_
        symm
        rw [uOkB_false]
        rintro ⟨⟨h1, h2, h3⟩, _⟩
        exact h3 j hlt (bytes_beq.1 hb)
      · (repeat (first | refine XK.n ?_ | refine XK.a ?_ | refine XK.b ?_))
        refine XK.inv ⟨j + 1, ⟨hlt, fun k hk => ?_⟩, Weak.of hN rfl rfl rfl ⟨AvIs.refl _, rfl, rfl, ⟨rfl, rfl, fun j hj => rfl⟩, rfl, rfl⟩ ⟨rfl, rfl⟩, by omega⟩
        by_cases hkj : k = j
        · subst hkj; exact bytes_bne.1 hb
        · exact hj2 k (by omega)
    · have hij : j = i := by
        have : ¬ j < i := by simpa using hb
        omega
      subst hij
      (repeat (first | refine XK.n ?_ | refine XK.a ?_ | refine XK.b ?_)); refine XK.region ?_; refine XL.g ?_
      refine XL.callGA hE rfl rfl rfl rfl rfl rfl rfl rfl (valid_ok (t j).fac hui.2.2) rfl ?_
      refine XL.g ?_; refine XL.fin ?_; (repeat (first | refine XK.n ?_ | refine XK.a ?_ | refine XK.b ?_))
      (repeat (first | refine XK.n ?_ | refine XK.a ?_ | refine XK.b ?_)); refine XK.cond rfl (fun hb => ?_) (fun hb => ?_)
      · (repeat (first | refine XK.n ?_ | refine XK.a ?_ | refine XK.b ?_))
        (first | refine XK.o ?_ | refine XK.p ?_)
        refine cB ?_
        symm
        rw [uOkB_false]
        rintro ⟨_, ⟨h1, h2, h3⟩, _⟩
        simp only [Bool.or_eq_true, Bool.and_eq_true, bne_iff_ne, Bool.not_eq_true', decide_eq_true_eq] at hb
        rcases hb with (⟨h4, h5⟩ | h4) | h4
        · rcases h1 with h1 | h1
          · exact h4 h1
          · exact h5 h1
        · rw [h2] at h4; cases h4
        · omega
      · (repeat (first | refine XK.n ?_ | refine XK.a ?_ | refine XK.b ?_))
        refine XK.weak (Weak.of (L := [(0, tabV n t), (1, .c (.int .i64 j)), (5, .ptr 95 0)]) (O := [(95, .cells 113 (uc (t j)))]) (nx := 2000) (nt := 90) (md := fun _ => false) hN rfl rfl rfl ⟨AvIs.refl _, rfl, rfl⟩ ⟨rfl, rfl⟩) ?_
        refine XK.drawn hm ?_
        refine XD.go hT rfl rfl rfl rfl trivial ?_
        refine XD.callL hE rfl rfl rfl rfl trivial rfl (isIndex_ok n t (t j).base) ?_ rfl ?_
        · exact ⟨AvIs.refl _, rfl⟩
        refine XD.go hT rfl rfl rfl rfl ?_ ?_
        · (first | exact trivial | (simp [AllP, impG]; done) | (simp only [AllP, List.append, List.nil_append, List.cons_append, inK, tdiv_nn, tmod_nn, Int.toNat_natCast]; omega) | (simp [AllP, impG, inK, tdiv_nn, tmod_nn]; omega) | ((repeat (first | (focus (first | omega | (intro i hi; first | rfl | (cases Nat.lt_one_iff.1 hi; rfl) | (rcases i with _ | _ | _ | _ | i <;> first | rfl | (exfalso; omega))) | (simp <;> omega))) | refine ⟨?_, ?_⟩)); done) | (simp only [AllP, impG, inK]; grind))
        refine XD.fin (by kernel_rfl) ?_
        (repeat (first | refine XK.n ?_ | refine XK.a ?_ | refine XK.b ?_)); refine XK.cond rfl (fun hb => ?_) (fun hb => ?_)
        · (repeat (first | refine XK.n ?_ | refine XK.a ?_ | refine XK.b ?_))
          (first | refine XK.o ?_ | refine XK.p ?_)
          refine cB ?_
          symm
          rw [uOkB_false]
          rintro ⟨_, _, ⟨⟨h1, h2⟩, h3, h4⟩, _⟩
          simp [h1, h2, h3, h4] at hb
        · simp at hb
          obtain ⟨⟨⟨h1, h2⟩, h3⟩, h4⟩ := hb
          (repeat (first | refine XK.n ?_ | refine XK.a ?_ | refine XK.b ?_))
          (first | refine XK.o ?_ | refine XK.p ?_)
          refine cB ?_
          rw [Bool.eq_iff_iff, uOkB_iff]
          simp only [Bool.or_eq_false_iff, Bool.and_eq_false_imp, bne_iff_ne, ne_eq, bne_eq_false_iff_eq, Bool.not_eq_false', decide_eq_false_iff_not] at hb
          obtain ⟨⟨g1, g2⟩, g3⟩ := hb
          simp only [uOk, Bool.or_eq_true, bne_iff_ne, Bool.and_eq_true, beq_iff_eq, Prod.ext_iff]
          constructor
          · intro h
            exact ⟨⟨by omega, hb2, hj2⟩, ⟨by omega, g2, by omega⟩, ⟨⟨h1, h2⟩, h3, h4⟩, h⟩
          · rintro ⟨_, _, _, h⟩
            exact h
end
section
open Go.Eng Go.RowKit Go.Lib
end
section
open Go.Eng
def P3 (x : Nat → Nat) : Nat := x 0 * x 1 * x 2
structure Half (N D B : Nat) (x y : Nat → Nat) (i j : Nat) : Prop where
  pos : ∀ k, k < 3 → 0 < y k
  px : ∀ k, 0 < k → k < 3 → 0 < x k
  bx : ∀ k, k < 3 → x k ≤ B
  by_ : ∀ k, k < 3 → y k ≤ B
  eq : P3 x * D = P3 y * N
  done : ∀ i' j', i' < 3 → j' < 3 → (i' < i ∨ i' = i ∧ j' < j) → Nat.gcd (x i') (y j') = 1
end
section
open Go.Eng
end
section
open Go.Eng
end
section
open Go.Eng
noncomputable def validR (t : Nat → U) (n : Nat) : Int × Bool := match (List.range n).find? (fun i => !uOkB t n i) with
  | some i => ((i : Int), false)
  | none => (-1, true)
theorem qvalid_ok (n : Nat) (t : Nat → U) (hw : ∀ j, j < n → uW (t j)) : Does Tryz.prog 113 [tabV n t] (.tup [.c (.int .i64 (validR t n).1), .c (.bool (validR t n).2)]) := by
  refine Does.mk (fun _ => false) TT_ok Tryz.func113 rfl (by kernel_rfl) Tryz.ntmps113 rfl rfl fun E hT hE hN hR => ?_
  have hm := mixO hE
  refine XK.fact (Sat.rs_len (j := 0) rfl) fun hlen => ?_
  have hn := hlen.1
  (repeat (first | refine XK.n ?_ | refine XK.a ?_ | refine XK.b ?_))
  refine XK.loop (ι := Nat) (fun i => ST.of [(0, tabV n t), (5, tabV n t), (6, .c (.int .i64 n)), (7, .c (.int .i64 i))] [] 1000 16 (fun _ => false))
    (fun i => i ≤ n ∧ ∀ j, j < i → uOkB t n j = true) (fun i => n - i) 0 ⟨by omega, fun j hj => by omega⟩ (Weak.of hN rfl rfl rfl ⟨AvIs.refl _, AvIs.refl _, rfl, rfl⟩ trivial) fun i hi => ?_
  obtain ⟨hi1, hi2⟩ := hi
  (repeat (first | refine XK.n ?_ | refine XK.a ?_ | refine XK.b ?_)); refine XK.cond rfl (fun hlt => ?_) (fun hlt => ?_) <;> (try simp at hlt)
  · (repeat (first | refine XK.n ?_ | refine XK.a ?_ | refine XK.b ?_)); refine XK.region ?_; refine XL.g ?_
    refine XL.callL hE rfl rfl rfl rfl trivial rfl (uvalid_ok n t i hlt hw) ?_ rfl ?_
    · exact ⟨AvIs.refl _, rfl⟩
    refine XL.g ?_; refine XL.fin ?_; (repeat (first | refine XK.n ?_ | refine XK.a ?_ | refine XK.b ?_))
    (repeat (first | refine XK.n ?_ | refine XK.a ?_ | refine XK.b ?_)); refine XK.cond rfl (fun hb => ?_) (fun hb => ?_) <;> (try simp at hb)
    · (repeat (first | refine XK.n ?_ | refine XK.a ?_ | refine XK.b ?_))
      (first | refine XK.o ?_ | refine XK.p ?_)
      have : (List.range n).find? (fun i => !uOkB t n i) = some i := by
        rw [List.find?_range_eq_some]
        exact ⟨by simp [hb], by simpa using hlt, fun j hj => by simp [hi2 j hj]⟩
      simp only [validR, this]
    · (repeat (first | refine XK.n ?_ | refine XK.a ?_ | refine XK.b ?_))
      refine XK.inv ⟨i + 1, ⟨hlt, fun j hj => ?_⟩, Weak.of hN rfl rfl rfl ⟨AvIs.refl _, AvIs.refl _, rfl, rfl⟩ trivial, by omega⟩
      by_cases h : j = i
      · subst h; exact hb
      · exact hi2 j (by omega)
  · (repeat (first | refine XK.n ?_ | refine XK.a ?_ | refine XK.b ?_))
    (first | refine XK.o ?_ | refine XK.p ?_)
    have : (List.range n).find? (fun i => !uOkB t n i) = none := by
      rw [List.find?_range_eq_none]
      exact fun j hj => by simp [hi2 j (by omega)]
    simp only [validR, this]
end
section
open Go.Eng
structure Cnd where
  clause : Int
  is : Int
structure Act where
  kind : Int
  role : Int
  give : Int
  to : Int
  unit : Int
  lot : Q
structure Cl where
  kind : Int
  role : Int
  act : Int
  need : Int
  start : List Cnd
  after : Int
  grace : Int
  business : Bool
  final : Bool
  pause : Int
  resume : Int
  value : Q
  unit : Int
  to : Int
  waived : Bool
structure K where
  parties : Int
  holders : List Int
  units : List U
  acts : List Act
  clauses : List Cl
  days : Int
  off : List Int
instance : Inhabited Cnd := ⟨⟨0, 0⟩⟩
instance : Inhabited Act := ⟨⟨0, 0, 0, 0, 0, (0, 0)⟩⟩
instance : Inhabited Cl := ⟨⟨0, 0, 0, 0, [], 0, 0, false, false, 0, 0, (0, 0), 0, 0, false⟩⟩
def iC (z : Int) : List AV := [.c (.int .i64 z)]
def bC (b : Bool) : List AV := [.c (.bool b)]
def cndC (x : Cnd) : List AV := [.c (.int .i64 x.clause), .c (.int .i64 x.is)]
def actC (a : Act) : List AV := [.c (.int .i64 a.kind), .c (.int .i64 a.role), .c (.int .i64 a.give), .c (.int .i64 a.to), .c (.int .i64 a.unit), .c (.int .i64 a.lot.1), .c (.int .i64 a.lot.2)]
def intsV (l : List Int) : AV := rowL iC 1 l
def boolsV (l : List Bool) : AV := rowL bC 1 l
def cndsV (l : List Cnd) : AV := rowL cndC 2 l
def actsV (l : List Act) : AV := rowL actC 7 l
def unitsV (l : List U) : AV := rowL uc 5 l
def clC (k : Cl) : List AV := [.c (.int .i64 k.kind), .c (.int .i64 k.role), .c (.int .i64 k.act), .c (.int .i64 k.need), cndsV k.start, .c (.int .i64 k.after), .c (.int .i64 k.grace), .c (.bool k.business), .c (.bool k.final), .c (.int .i64 k.pause), .c (.int .i64 k.resume), .c (.int .i64 k.value.1), .c (.int .i64 k.value.2), .c (.int .i64 k.unit), .c (.int .i64 k.to), .c (.bool k.waived)]
def clsV (l : List Cl) : AV := rowL clC 16 l
def kC (k : K) : List AV := [.c (.int .i64 k.parties), intsV k.holders, unitsV k.units, actsV k.acts, clsV k.clauses, .c (.int .i64 k.days), intsV k.off]
def kV (k : K) : AV := .agg [.c (.int .i64 k.parties), intsV k.holders, unitsV k.units, actsV k.acts, clsV k.clauses, .c (.int .i64 k.days), intsV k.off]
def cndW (x : Cnd) : Prop := inK .i64 x.clause ∧ inK .i64 x.is
def actW (a : Act) : Prop := inK .i64 a.kind ∧ inK .i64 a.role ∧ inK .i64 a.give ∧ inK .i64 a.to ∧ inK .i64 a.unit ∧ qW a.lot
def clW (k : Cl) : Prop := inK .i64 k.kind ∧ inK .i64 k.role ∧ inK .i64 k.act ∧ inK .i64 k.need ∧ (∀ x ∈ k.start, cndW x) ∧ inK .i64 k.after ∧ inK .i64 k.grace ∧ inK .i64 k.pause ∧ inK .i64 k.resume ∧ qW k.value ∧ inK .i64 k.unit ∧ inK .i64 k.to
def kW (k : K) : Prop := inK .i64 k.parties ∧ (∀ z ∈ k.holders, inK .i64 z) ∧ (∀ u ∈ k.units, uW u) ∧ (∀ a ∈ k.acts, actW a) ∧ (∀ x ∈ k.clauses, clW x) ∧ inK .i64 k.days ∧ ∀ z ∈ k.off, inK .i64 z
noncomputable def cBool : Codec Tryz.prog 4 Bool := Codec.bool (show Tryz.prog.underlying 4 = some .bool from by kernel_rfl) (by kernel_rfl)
noncomputable def cInts : Codec Tryz.prog 22 (List Int) := Codec.slice cInt ty22_k (by decide) (by kernel_rfl)
noncomputable def cCnd : Codec Tryz.prog 132 Cnd := (Codec.struct ty132_k rfl (.cons cInt (.cons cInt (.nil _ _))) (by kernel_rfl)).map (fun x => ⟨x.1, x.2.1⟩) cndC cndW (fun _ => rfl) (fun _ => rfl) (fun _ h => ⟨h.1, h.2.1⟩)
noncomputable def cCnds : Codec Tryz.prog 52 (List Cnd) := Codec.slice cCnd ty52_k (by decide) (by kernel_rfl)
noncomputable def cAct : Codec Tryz.prog 115 Act := (Codec.struct ty115_k rfl (.cons cInt (.cons cInt (.cons cInt (.cons cInt (.cons cInt (.cons cQ (.nil _ _))))))) (by kernel_rfl)).map (fun x => ⟨x.1, x.2.1, x.2.2.1, x.2.2.2.1, x.2.2.2.2.1, x.2.2.2.2.2.1⟩) actC actW (fun _ => rfl) (fun _ => rfl) (fun _ h => ⟨h.1, h.2.1, h.2.2.1, h.2.2.2.1, h.2.2.2.2.1, h.2.2.2.2.2.1⟩)
noncomputable def cActs : Codec Tryz.prog 24 (List Act) := Codec.slice cAct ty24_k (by decide) (by kernel_rfl)
noncomputable def cCl : Codec Tryz.prog 56 Cl := (Codec.struct ty56_k rfl (.cons cInt (.cons cInt (.cons cInt (.cons cInt (.cons cCnds (.cons cInt (.cons cInt (.cons cBool (.cons cBool (.cons cInt (.cons cInt (.cons cQ (.cons cInt (.cons cInt (.cons cBool (.nil _ _)))))))))))))))) (by kernel_rfl)).map
  (fun ⟨a, b, c, d, e, f, g, h, i, j, k, l, m, n, o, _⟩ => ⟨a, b, c, d, e, f, g, h, i, j, k, l, m, n, o⟩) clC clW (fun _ => rfl) (fun _ => rfl) (fun _ ⟨a, b, c, d, e, f, g, _, _, j, k, l, m, n, _⟩ => ⟨a, b, c, d, e, f, g, j, k, l, m, n⟩)
noncomputable def cCls : Codec Tryz.prog 25 (List Cl) := Codec.slice cCl ty25_k (by decide) (by kernel_rfl)
noncomputable def cK : Codec Tryz.prog 27 K := (Codec.struct ty27_k rfl (.cons cInt (.cons cInts (.cons cUs (.cons cActs (.cons cCls (.cons cInt (.cons cInts (.nil _ _)))))))) (by kernel_rfl)).map
  (fun ⟨a, b, c, d, e, f, g, _⟩ => ⟨a, b, c, d, e, f, g⟩) kC kW (fun _ => rfl) (fun _ => rfl) (fun _ ⟨a, b, c, d, e, f, g, _⟩ => ⟨a, b, c, d, e, f, g⟩)
end
section
open Go.Eng
def movB (k : K) (r : Int) : Bool := decide (0 ≤ r) && decide (r < k.holders.length)
def posB (q : Q) : Bool := decide (0 < q.1) && qOk q
theorem movable_ok (k : K) (r : Int) : Does Tryz.prog 119 [kV k, .c (.int .i64 r)] (.c (.bool (movB k r))) := by
  refine Does.mk (fun _ => false) TT_ok Tryz.func119 rfl (by kernel_rfl) Tryz.ntmps119 rfl rfl fun E hT hE hN hR => ?_
  have hm := mixO hE
  (repeat (first | refine XK.n ?_ | refine XK.a ?_ | refine XK.b ?_))
  (first | refine XK.o ?_ | refine XK.p ?_)
  simp [movB]
theorem none_ok : Does Tryz.prog 117 [] (qv (0, 1)) := by
  refine Does.mk (fun _ => false) TT_ok Tryz.func117 rfl (by kernel_rfl) Tryz.ntmps117 rfl rfl fun E hT hE hN hR => ?_
  have hm := mixO hE
  (repeat (first | refine XK.n ?_ | refine XK.a ?_ | refine XK.b ?_))
  (first | refine XK.o ?_ | refine XK.p ?_)
  rfl
theorem positive_ok (q : Q) (h : qW q) : Does Tryz.prog 118 [qv q] (.c (.bool (posB q))) := by
  refine Does.mk (fun _ => false) TT_ok Tryz.func118 rfl (by kernel_rfl) Tryz.ntmps118 rfl rfl fun E hT hE hN hR => ?_
  have hm := mixO hE
  (repeat (first | refine XK.n ?_ | refine XK.a ?_ | refine XK.b ?_)); refine XK.region ?_; refine XL.g ?_
  refine XL.callGA hE rfl rfl rfl rfl rfl rfl rfl rfl (valid_ok q h) rfl ?_
  refine XL.g ?_; refine XL.fin ?_; (repeat (first | refine XK.n ?_ | refine XK.a ?_ | refine XK.b ?_))
  (repeat (first | refine XK.n ?_ | refine XK.a ?_ | refine XK.b ?_))
  (first | refine XK.o ?_ | refine XK.p ?_)
  simp [posB]
def actAt (k : K) (i : Int) : Act := k.acts.getD i.toNat default
def natB (k : K) (i : Int) : Bool := decide (0 ≤ i) && decide (i < k.acts.length) && (actAt k i).kind == 1 && (actAt k i).role == -1
theorem natural_ok (k : K) (i : Int) : Does Tryz.prog 116 [kV k, .c (.int .i64 i)] (.c (.bool (natB k i))) := by
  refine Does.mk (fun _ => false) TT_ok Tryz.func116 rfl (by kernel_rfl) Tryz.ntmps116 rfl rfl fun E hT hE hN hR => ?_
  have hm := mixO hE
  (repeat (first | refine XK.n ?_ | refine XK.a ?_ | refine XK.b ?_))
  (first | refine XK.o ?_ | refine XK.p ?_)
  rfl
def kindB (k : K) (x : Cl) : Bool :=
  if x.kind = 4 then x.role == -1 && x.need == 1 && x.grace == 0 && !x.final
  else if !movB k x.role || natB k x.act then false
  else if x.kind = 1 then decide (1 ≤ x.need) && decide (x.need ≤ 9) && decide (0 ≤ x.grace) && decide (x.grace ≤ 400)
  else if x.kind = 2 then x.need == 1 && x.grace == 0
  else if x.kind = 3 then x.need == 1 && x.grace == 0 && !x.final
  else false
theorem validKind_ok (k : K) (x : Cl) : Does Tryz.prog 115 [kV k, .agg (clC x)] (.c (.bool (kindB k x))) := by
  refine Does.mk (fun _ => false) TT_ok Tryz.func115 rfl (by kernel_rfl) Tryz.ntmps115 rfl rfl fun E hT hE hN hR => ?_
  have hm := mixO hE
  (repeat (first | refine XK.n ?_ | refine XK.a ?_ | refine XK.b ?_)); refine XK.cond rfl (fun h4 => ?_) (fun h4 => ?_) <;> (try simp at h4)
  · (repeat (first | refine XK.n ?_ | refine XK.a ?_ | refine XK.b ?_))
    (first | refine XK.o ?_ | refine XK.p ?_)
    simp [kindB, h4]
  · (repeat (first | refine XK.n ?_ | refine XK.a ?_ | refine XK.b ?_)); refine XK.region ?_; refine XL.g ?_
    refine XL.callLA hE rfl rfl rfl rfl trivial rfl (movable_ok k x.role) rfl ?_
    refine XL.g ?_
    refine XL.callGA hE rfl rfl rfl rfl rfl rfl rfl rfl (natural_ok k x.act) rfl ?_
    refine XL.g ?_; refine XL.fin ?_; (repeat (first | refine XK.n ?_ | refine XK.a ?_ | refine XK.b ?_))
    (repeat (first | refine XK.n ?_ | refine XK.a ?_ | refine XK.b ?_)); refine XK.cond rfl (fun hm => ?_) (fun hm => ?_)
    · (repeat (first | refine XK.n ?_ | refine XK.a ?_ | refine XK.b ?_))
      (first | refine XK.o ?_ | refine XK.p ?_)
      simp [kindB, h4, hm]
    · (repeat (first | refine XK.n ?_ | refine XK.a ?_ | refine XK.b ?_)); refine XK.cond rfl (fun h1 => ?_) (fun h1 => ?_) <;> (try simp at h1)
      · (repeat (first | refine XK.n ?_ | refine XK.a ?_ | refine XK.b ?_))
        (first | refine XK.o ?_ | refine XK.p ?_)
        simp [kindB, h4, hm, h1]
      · (repeat (first | refine XK.n ?_ | refine XK.a ?_ | refine XK.b ?_)); refine XK.cond rfl (fun h2 => ?_) (fun h2 => ?_) <;> (try simp at h2)
        · (repeat (first | refine XK.n ?_ | refine XK.a ?_ | refine XK.b ?_))
          (first | refine XK.o ?_ | refine XK.p ?_)
          simp [kindB, h4, hm, h1, h2]
        · (repeat (first | refine XK.n ?_ | refine XK.a ?_ | refine XK.b ?_)); refine XK.cond rfl (fun h3 => ?_) (fun h3 => ?_) <;> (try simp at h3)
          · (repeat (first | refine XK.n ?_ | refine XK.a ?_ | refine XK.b ?_))
            (first | refine XK.o ?_ | refine XK.p ?_)
            simp [kindB, h4, hm, h1, h2, h3]
          · (repeat (first | refine XK.n ?_ | refine XK.a ?_ | refine XK.b ?_))
            (first | refine XK.o ?_ | refine XK.p ?_)
            simp [kindB, h4, hm, h1, h2, h3]
end
section
open Go.Eng
def actB (k : K) (a : Act) : Bool :=
  if !movB k a.role then a.kind == 1 && a.role == -1 && a.give == 0 && (a.to == -1 || movB k a.to) && a.unit == -1 && (a.lot.1 == 0 && a.lot.2 == 1)
  else if a.kind = 1 then
    if a.give ≠ 0 ∨ (a.to ≠ -1 ∧ movB k a.to = false) then false
    else if a.unit = -1 then a.lot.1 == 0 && a.lot.2 == 1
    else decide (0 ≤ a.unit) && decide (a.unit < k.units.length) && posB a.lot
  else if a.kind = 2 ∨ a.kind = 3 then movB k a.give && decide (0 ≤ a.to) && decide (a.to < k.parties) && a.unit == -1 && (a.lot.1 == 0 && a.lot.2 == 1)
  else false
theorem validAct_ok (k : K) (a : Act) (ha : actW a) : Does Tryz.prog 114 [kV k, .agg (actC a)] (.c (.bool (actB k a))) := by
  refine Does.mk (fun _ => false) TT_ok Tryz.func114 rfl (by kernel_rfl) Tryz.ntmps114 rfl rfl fun E hT hE hN hR => ?_
  have hm := mixO hE
  (repeat (first | refine XK.n ?_ | refine XK.a ?_ | refine XK.b ?_)); refine XK.region ?_; refine XL.g ?_
  refine XL.callLA hE rfl rfl rfl rfl trivial rfl (movable_ok k a.role) rfl ?_
  refine XL.g ?_; refine XL.fin ?_; (repeat (first | refine XK.n ?_ | refine XK.a ?_ | refine XK.b ?_))
  (repeat (first | refine XK.n ?_ | refine XK.a ?_ | refine XK.b ?_)); refine XK.cond rfl (fun hv => ?_) (fun hv => ?_)
  · (repeat (first | refine XK.n ?_ | refine XK.a ?_ | refine XK.b ?_)); refine XK.drawn hm ?_; refine XD.goA hT rfl rfl rfl rfl ?_
    refine XD.callGA hE rfl rfl rfl rfl rfl rfl rfl rfl rfl (movable_ok k a.to) rfl ?_
    refine XD.goA hT rfl rfl rfl rfl ?_
    refine XD.callGA hE rfl rfl rfl rfl rfl rfl rfl rfl rfl (none_ok) rfl ?_
    refine XD.goA hT rfl rfl rfl rfl ?_; refine XD.fin (by kernel_rfl) ?_; (repeat (first | refine XK.n ?_ | refine XK.a ?_ | refine XK.b ?_))
    (repeat (first | refine XK.n ?_ | refine XK.a ?_ | refine XK.b ?_))
    (first | refine XK.o ?_ | refine XK.p ?_)
    simp [actB, hv]
  · (repeat (first | refine XK.n ?_ | refine XK.a ?_ | refine XK.b ?_)); refine XK.cond rfl (fun h1 => ?_) (fun h1 => ?_) <;> (try simp at h1)
    · (repeat (first | refine XK.n ?_ | refine XK.a ?_ | refine XK.b ?_)); refine XK.region ?_; refine XL.g ?_
      refine XL.callGA hE rfl rfl rfl rfl rfl rfl rfl rfl (movable_ok k a.to) rfl ?_
      refine XL.g ?_; refine XL.fin ?_; (repeat (first | refine XK.n ?_ | refine XK.a ?_ | refine XK.b ?_))
      (repeat (first | refine XK.n ?_ | refine XK.a ?_ | refine XK.b ?_)); refine XK.cond rfl (fun hx => ?_) (fun hx => ?_) <;> (try simp at hx)
      · (repeat (first | refine XK.n ?_ | refine XK.a ?_ | refine XK.b ?_))
        (first | refine XK.o ?_ | refine XK.p ?_)
        simp [actB, hv, h1, hx]
      · have hx2 : a.to = -1 ∨ movB k a.to = true := by
          by_cases h : a.to = -1
          · exact .inl h
          · exact .inr (hx.2 h)
        (repeat (first | refine XK.n ?_ | refine XK.a ?_ | refine XK.b ?_)); refine XK.cond rfl (fun hu => ?_) (fun hu => ?_) <;> (try simp at hu)
        · (repeat (first | refine XK.n ?_ | refine XK.a ?_ | refine XK.b ?_)); refine XK.drawn hm ?_; refine XD.goA hT rfl rfl rfl rfl ?_
          refine XD.callLA hE rfl rfl rfl rfl trivial rfl (none_ok) rfl ?_
          refine XD.goA hT rfl rfl rfl rfl ?_; refine XD.fin (by kernel_rfl) ?_; (repeat (first | refine XK.n ?_ | refine XK.a ?_ | refine XK.b ?_))
          (repeat (first | refine XK.n ?_ | refine XK.a ?_ | refine XK.b ?_))
          (first | refine XK.o ?_ | refine XK.p ?_)
          simp [actB, hv, h1, hx, hu]
          exact fun _ _ => hx2
        · (repeat (first | refine XK.n ?_ | refine XK.a ?_ | refine XK.b ?_)); refine XK.region ?_; refine XL.g ?_
          refine XL.callGA hE rfl rfl rfl rfl rfl rfl rfl rfl (positive_ok a.lot ha.2.2.2.2.2) rfl ?_
          refine XL.g ?_; refine XL.fin ?_; (repeat (first | refine XK.n ?_ | refine XK.a ?_ | refine XK.b ?_))
          (repeat (first | refine XK.n ?_ | refine XK.a ?_ | refine XK.b ?_))
          (first | refine XK.o ?_ | refine XK.p ?_)
          simp [actB, hv, h1, hx, hu]
          exact fun _ _ _ => hx2
    · (repeat (first | refine XK.n ?_ | refine XK.a ?_ | refine XK.b ?_)); refine XK.cond rfl (fun h2 => ?_) (fun h2 => ?_) <;> (try simp at h2)
      · (repeat (first | refine XK.n ?_ | refine XK.a ?_ | refine XK.b ?_)); refine XK.cond rfl (fun h3 => ?_) (fun h3 => ?_) <;> (try simp at h3)
        · (repeat (first | refine XK.n ?_ | refine XK.a ?_ | refine XK.b ?_)); refine XK.drawn hm ?_; refine XD.goA hT rfl rfl rfl rfl ?_
          refine XD.callLA hE rfl rfl rfl rfl trivial rfl (movable_ok k a.give) rfl ?_
          refine XD.goA hT rfl rfl rfl rfl ?_
          refine XD.callGA hE rfl rfl rfl rfl rfl rfl rfl rfl rfl (none_ok) rfl ?_
          refine XD.goA hT rfl rfl rfl rfl ?_; refine XD.fin (by kernel_rfl) ?_; (repeat (first | refine XK.n ?_ | refine XK.a ?_ | refine XK.b ?_))
          (repeat (first | refine XK.n ?_ | refine XK.a ?_ | refine XK.b ?_))
          (first | refine XK.o ?_ | refine XK.p ?_)
          simp [actB, hv, h1, h2]
        · exact absurd h2 h3
      · (repeat (first | refine XK.n ?_ | refine XK.a ?_ | refine XK.b ?_)); refine XK.cond rfl (fun h3 => ?_) (fun h3 => ?_) <;> (try simp at h3)
        · (repeat (first | refine XK.n ?_ | refine XK.a ?_ | refine XK.b ?_)); refine XK.drawn hm ?_; refine XD.goA hT rfl rfl rfl rfl ?_
          refine XD.callLA hE rfl rfl rfl rfl trivial rfl (movable_ok k a.give) rfl ?_
          refine XD.goA hT rfl rfl rfl rfl ?_
          refine XD.callGA hE rfl rfl rfl rfl rfl rfl rfl rfl rfl (none_ok) rfl ?_
          refine XD.goA hT rfl rfl rfl rfl ?_; refine XD.fin (by kernel_rfl) ?_; (repeat (first | refine XK.n ?_ | refine XK.a ?_ | refine XK.b ?_))
          (repeat (first | refine XK.n ?_ | refine XK.a ?_ | refine XK.b ?_))
          (first | refine XK.o ?_ | refine XK.p ?_)
          simp [actB, hv, h1, h2, h3]
        · (repeat (first | refine XK.n ?_ | refine XK.a ?_ | refine XK.b ?_))
          (first | refine XK.o ?_ | refine XK.p ?_)
          simp [actB, hv, h1, h2, h3]
end
section
open Go.Eng
def heldB (k : K) : Bool := k.holders.all (fun h => decide (0 ≤ h) && decide (h < k.parties))
theorem all_at {α : Type} [Inhabited α] {p : α → Bool} {l : List α} : l.all p = true ↔ ∀ i, i < l.length → p (l.getD i default) = true := by
  rw [List.all_eq_true]
  constructor
  · intro h i hi
    simp only [List.getD_eq_getElem?_getD, List.getElem?_eq_getElem hi, Option.getD_some]
    exact h _ (List.getElem_mem hi)
  · intro h x hx
    obtain ⟨i, hi, rfl⟩ := List.getElem_of_mem hx
    have := h i hi
    simpa only [List.getD_eq_getElem?_getD, List.getElem?_eq_getElem hi, Option.getD_some] using this
theorem all_not {α : Type} [Inhabited α] {p : α → Bool} {l : List α} {i : Nat} (hi : i < l.length) (h : p (l.getD i default) = false) : l.all p = false := by
  rw [← Bool.not_eq_true, all_at]
  intro h2
  rw [h2 i hi] at h
  cases h
theorem held_ok (k : K) (hk : kW k) : Does Tryz.prog 112 [kV k] (.c (.bool (heldB k))) := by
  refine Does.mk (fun _ => false) TT_ok Tryz.func112 rfl (by kernel_rfl) Tryz.ntmps112 rfl rfl fun E hT hE hN hR => ?_
  have hm := mixO hE
  have hp : -9223372036854775808 ≤ k.parties ∧ k.parties ≤ 9223372036854775807 := hk.1
  (repeat (first | refine XK.n ?_ | refine XK.a ?_ | refine XK.b ?_))
  refine XK.fact (Sat.rs_len (j := 6) rfl) fun hlen => ?_
  have hm' := hlen.1
  refine XK.loop (ι := Nat) (fun i => ST.of [(1, .ptr 1 0), (7, .c (.int .i64 k.holders.length)), (8, .c (.int .i64 i))] [(1, .cells 27 (kC k))] 1000 25 (fun _ => false))
    (fun i => i ≤ k.holders.length ∧ ∀ j, j < i → (decide (0 ≤ k.holders.getD j default) && decide (k.holders.getD j default < k.parties)) = true) (fun i => k.holders.length - i) 0 ⟨Nat.zero_le _, fun j hj => absurd hj (Nat.not_lt_zero _)⟩
    (Weak.of hN rfl rfl rfl ⟨rfl, rfl, rfl⟩ ⟨rfl, rfl⟩) fun i hi => ?_
  obtain ⟨hi1, hi2⟩ := hi
  (repeat (first | refine XK.n ?_ | refine XK.a ?_ | refine XK.b ?_)); refine XK.cond rfl (fun hlt => ?_) (fun hlt => ?_) <;> (try simp at hlt)
  · (repeat (first | refine XK.n ?_ | refine XK.a ?_ | refine XK.b ?_))
    refine XK.loop (ι := Nat) (fun p => ST.of [(1, .ptr 1 0), (3, .c (.int .i64 i)), (7, .c (.int .i64 k.holders.length)), (8, .c (.int .i64 i)), (12, .c (.int .i64 k.parties)), (13, .c (.int .i64 p))] [(1, .cells 27 (kC k))] 2000 25 (fun _ => false))
      (fun p => (p = 0 ∨ (p : Int) ≤ k.parties) ∧ ∀ q : Nat, q < p → k.holders.getD i default ≠ q) (fun p => k.parties.toNat - p) 0 ⟨.inl rfl, fun j hj => absurd hj (Nat.not_lt_zero _)⟩
      (Weak.of hN rfl rfl rfl ⟨rfl, rfl, rfl, rfl, rfl, rfl⟩ ⟨rfl, rfl⟩) fun p hp2 => ?_
    obtain ⟨hp1, hp2⟩ := hp2
    (repeat (first | refine XK.n ?_ | refine XK.a ?_ | refine XK.b ?_)); refine XK.cond rfl (fun hc => ?_) (fun hc => ?_) <;> (try simp at hc)
    · (repeat (first | refine XK.n ?_ | refine XK.a ?_ | refine XK.b ?_)); refine XK.cond rfl (fun he => ?_) (fun he => ?_) <;> (try simp at he)
      · (repeat (first | refine XK.n ?_ | refine XK.a ?_ | refine XK.b ?_))
        refine XK.inv ⟨i + 1, ⟨hlt, fun j hj => ?_⟩, Weak.of hN rfl rfl rfl ⟨rfl, rfl, rfl⟩ ⟨rfl, rfl⟩, by omega⟩
        by_cases h : j = i
        · subst h
          have he : k.holders.getD j default = p := by simpa using he
          rw [he]
          simp
          omega
        · exact hi2 j (by omega)
      · (repeat (first | refine XK.n ?_ | refine XK.a ?_ | refine XK.b ?_))
        refine XK.inv ⟨p + 1, ⟨.inr (by omega), fun q hq => ?_⟩, Weak.of hN rfl rfl rfl ⟨rfl, rfl, rfl, rfl, rfl, rfl⟩ ⟨rfl, rfl⟩, by omega⟩
        by_cases h : q = p
        · subst h
          simpa using he
        · exact hp2 q (by omega)
    · (repeat (first | refine XK.n ?_ | refine XK.a ?_ | refine XK.b ?_))
      (first | refine XK.o ?_ | refine XK.p ?_)
      refine cB ?_
      symm
      refine all_not hlt ?_
      by_cases h0 : 0 ≤ k.holders.getD i default
      · have := hp2 (k.holders.getD i default).toNat
        simp only [Bool.and_eq_false_iff, decide_eq_false_iff_not]
        right
        intro h1
        exact hp2 (k.holders.getD i default).toNat (by omega) (by omega)
      · simp only [Bool.and_eq_false_iff, decide_eq_false_iff_not]
        exact .inl h0
  · (repeat (first | refine XK.n ?_ | refine XK.a ?_ | refine XK.b ?_))
    (first | refine XK.o ?_ | refine XK.p ?_)
    refine cB ?_
    symm
    exact all_at.2 fun j hj => hi2 j (by omega)
end
section
open Go.Eng
def offPrev (k : K) (i : Nat) : Int := if i = 0 then -1 else k.off.getD (i - 1) default
def offB (k : K) : Bool := (List.range k.off.length).all (fun i => decide (offPrev k i < k.off.getD i default) && decide (k.off.getD i default < k.days))
noncomputable def framedB (k : K) : Bool :=
  if k.parties < 1 ∨ k.days < 1 ∨ k.holders.length = 0 ∨ heldB k = false then false
  else if (validR (fun j => k.units.getD j default) k.units.length).2 = false then false
  else k.acts.all (actB k) && offB k
theorem framed_ok (k : K) (hk : kW k) : Does Tryz.prog 67 [kV k] (.c (.bool (framedB k))) := by
  refine Does.mk (fun _ => false) TT_ok Tryz.func67 rfl (by kernel_rfl) Tryz.ntmps67 rfl rfl fun E hT hE hN hR => ?_
  have hm := mixO hE
  (repeat (first | refine XK.n ?_ | refine XK.a ?_ | refine XK.b ?_)); refine XK.region ?_; refine XL.g ?_
  refine XL.callGA hE rfl rfl rfl rfl rfl rfl rfl rfl (held_ok k hk) rfl ?_
  refine XL.g ?_; refine XL.fin ?_; (repeat (first | refine XK.n ?_ | refine XK.a ?_ | refine XK.b ?_))
  (repeat (first | refine XK.n ?_ | refine XK.a ?_ | refine XK.b ?_)); refine XK.cond rfl (fun h1 => ?_) (fun h1 => ?_)
  · (repeat (first | refine XK.n ?_ | refine XK.a ?_ | refine XK.b ?_))
    (first | refine XK.o ?_ | refine XK.p ?_)
    have : k.parties < 1 ∨ k.days < 1 ∨ k.holders.length = 0 ∨ heldB k = false := by
      simp only [Bool.or_eq_true, decide_eq_true_eq, beq_iff_eq, Bool.not_eq_true'] at h1
      rcases h1 with ((h | h) | h) | h
      · exact .inl h
      · exact .inr (.inl h)
      · exact .inr (.inr (.inl (by omega)))
      · exact .inr (.inr (.inr h))
    simp only [framedB, if_pos this]
  · have h1' : ¬ (k.parties < 1 ∨ k.days < 1 ∨ k.holders.length = 0 ∨ heldB k = false) := by
      intro h
      rcases h with h | h | h | h <;> simp [h] at h1
    (repeat (first | refine XK.n ?_ | refine XK.a ?_ | refine XK.b ?_)); refine XK.region ?_; refine XL.g ?_
    refine XL.callLA hE rfl rfl rfl rfl trivial rfl (qvalid_ok k.units.length (fun j => k.units.getD j default) (all_getD hk.2.2.1)) rfl ?_
    refine XL.g ?_; refine XL.fin ?_; (repeat (first | refine XK.n ?_ | refine XK.a ?_ | refine XK.b ?_))
    (repeat (first | refine XK.n ?_ | refine XK.a ?_ | refine XK.b ?_)); refine XK.cond rfl (fun h2 => ?_) (fun h2 => ?_)
    · (repeat (first | refine XK.n ?_ | refine XK.a ?_ | refine XK.b ?_))
      (first | refine XK.o ?_ | refine XK.p ?_)
      have : (validR (fun j => k.units.getD j default) k.units.length).2 = false := by simpa using h2
      simp only [framedB, if_neg h1', if_pos this]
    · have h2' : ¬ (validR (fun j => k.units.getD j default) k.units.length).2 = false := by
        simpa using h2
      (repeat (first | refine XK.n ?_ | refine XK.a ?_ | refine XK.b ?_))
      refine XK.fact (Sat.rs_len (j := 38) rfl) fun hlen => ?_
      have hm' := hlen.1
      refine XK.loop (ι := Nat) (fun i => ST.of [(1, .ptr 1 0), (38, actsV k.acts), (39, .c (.int .i64 k.acts.length)), (40, .c (.int .i64 i))] [(1, .cells 27 (kC k))] 1000 67 (fun _ => false))
        (fun i => i ≤ k.acts.length ∧ ∀ j, j < i → actB k (k.acts.getD j default) = true) (fun i => k.acts.length - i) 0 ⟨Nat.zero_le _, fun j hj => absurd hj (Nat.not_lt_zero _)⟩
        (Weak.of hN rfl rfl rfl ⟨rfl, AvIs.refl _, rfl, rfl⟩ ⟨rfl, rfl⟩) fun i hi => ?_
      obtain ⟨hi1, hi2⟩ := hi
      (repeat (first | refine XK.n ?_ | refine XK.a ?_ | refine XK.b ?_)); refine XK.cond rfl (fun hlt => ?_) (fun hlt => ?_) <;> (try simp at hlt)
      · (repeat (first | refine XK.n ?_ | refine XK.a ?_ | refine XK.b ?_)); refine XK.region ?_; refine XL.g ?_
        refine XL.callLA hE rfl rfl rfl rfl trivial rfl (validAct_ok k (k.acts.getD i default) (all_getD hk.2.2.2.1 i hlt)) rfl ?_
        refine XL.g ?_; refine XL.fin ?_; (repeat (first | refine XK.n ?_ | refine XK.a ?_ | refine XK.b ?_))
        (repeat (first | refine XK.n ?_ | refine XK.a ?_ | refine XK.b ?_)); refine XK.cond rfl (fun ha => ?_) (fun ha => ?_)
        · (repeat (first | refine XK.n ?_ | refine XK.a ?_ | refine XK.b ?_))
          (first | refine XK.o ?_ | refine XK.p ?_)
          have : k.acts.all (actB k) = false := all_not hlt (by simpa using ha)
          simp only [framedB, if_neg h1', if_neg h2', this, Bool.false_and]
        · (repeat (first | refine XK.n ?_ | refine XK.a ?_ | refine XK.b ?_))
          refine XK.inv ⟨i + 1, ⟨hlt, fun j hj => ?_⟩, Weak.of hN rfl rfl rfl ⟨rfl, AvIs.refl _, rfl, rfl⟩ ⟨rfl, rfl⟩, by omega⟩
          by_cases h : j = i
          · subst h; simpa using ha
          · exact hi2 j (by omega)
      · have hacts : k.acts.all (actB k) = true := all_at.2 fun j hj => hi2 j (by omega)
        (repeat (first | refine XK.n ?_ | refine XK.a ?_ | refine XK.b ?_))
        refine XK.fact (Sat.rs_len (j := 50) rfl) fun hlen => ?_
        have hm'' := hlen.1
        refine XK.loop (ι := Nat) (fun i => ST.of [(1, .ptr 1 0), (7, .c (.int .i64 (offPrev k i))), (50, intsV k.off), (51, .c (.int .i64 k.off.length)), (52, .c (.int .i64 i))] [(1, .cells 27 (kC k))] 1000 67 (fun _ => false))
          (fun i => i ≤ k.off.length ∧ ∀ j, j < i → (decide (offPrev k j < k.off.getD j default) && decide (k.off.getD j default < k.days)) = true) (fun i => k.off.length - i) 0 ⟨Nat.zero_le _, fun j hj => absurd hj (Nat.not_lt_zero _)⟩
          (Weak.of hN rfl rfl rfl ⟨rfl, rfl, AvIs.refl _, rfl, rfl⟩ ⟨rfl, rfl⟩) fun i hi => ?_
        obtain ⟨hi1, hi2⟩ := hi
        (repeat (first | refine XK.n ?_ | refine XK.a ?_ | refine XK.b ?_)); refine XK.cond rfl (fun hlt => ?_) (fun hlt => ?_) <;> (try simp at hlt)
        · (repeat (first | refine XK.n ?_ | refine XK.a ?_ | refine XK.b ?_)); refine XK.cond rfl (fun ho => ?_) (fun ho => ?_)
          · (repeat (first | refine XK.n ?_ | refine XK.a ?_ | refine XK.b ?_))
            (first | refine XK.o ?_ | refine XK.p ?_)
            have : offB k = false := by
              unfold offB
              rw [List.all_eq_false]
              refine ⟨i, by simpa using hlt, ?_⟩
              simp only [Bool.or_eq_true, decide_eq_true_eq, Int.toNat_natCast] at ho
              simp only [Bool.and_eq_true, decide_eq_true_eq, not_and]
              omega
            simp only [framedB, if_neg h1', if_neg h2', this, Bool.and_false]
          · (repeat (first | refine XK.n ?_ | refine XK.a ?_ | refine XK.b ?_))
            refine XK.inv ⟨i + 1, ⟨hlt, fun j hj => ?_⟩, Weak.of hN rfl rfl rfl ⟨rfl, rfl, AvIs.refl _, rfl, rfl⟩ ⟨rfl, rfl⟩, by omega⟩
            by_cases h : j = i
            · subst h
              simp only [Bool.or_eq_false_iff, decide_eq_false_iff_not, Int.toNat_natCast] at ho
              simp only [Bool.and_eq_true, decide_eq_true_eq]
              omega
            · exact hi2 j (by omega)
        · (repeat (first | refine XK.n ?_ | refine XK.a ?_ | refine XK.b ?_))
          (first | refine XK.o ?_ | refine XK.p ?_)
          have : offB k = true := by
            simp only [offB, List.all_eq_true, List.mem_range]
            exact fun j hj => hi2 j (by omega)
          simp only [framedB, if_neg h1', if_neg h2', hacts, this, Bool.and_self]
end
section
open Go.Eng
def condB (k : K) (i : Int) (s : Cnd) : Bool := !(decide (s.clause < 0) || decide ((k.clauses.length : Int) ≤ s.clause) || s.clause == i || decide (s.is < 1) || decide (4 < s.is))
def clauseB (k : K) (i : Int) (x : Cl) : Bool :=
  if (decide (x.act < 0) || decide ((k.acts.length : Int) ≤ x.act) || decide (x.after < 1) || decide (400 < x.after)) = true then false
  else if (!kindB k x || decide ((8 : Int) < x.start.length)) = true then false
  else if x.start.all (condB k i) = false then false
  else if (x.pause ≠ -1 ∨ x.resume ≠ -1) ∧ (x.pause == x.resume || !natB k x.pause || !natB k x.resume) = true then false
  else if x.unit = -1 then (x.value.1 == 0 && x.value.2 == 1) && x.to == -1
  else (x.kind == 1 || x.kind == 2) && decide (0 ≤ x.unit) && decide (x.unit < k.units.length) && (k.units.getD x.unit.toNat default).kind == 2 && posB x.value && movB k x.to
theorem validClause_ok (k : K) (hk : kW k) (i : Nat) (hi : i < k.clauses.length) : Does Tryz.prog 68 [kV k, .c (.int .i64 i)] (.c (.bool (clauseB k i (k.clauses.getD i default)))) := by
  refine Does.mk (fun _ => false) TT_ok Tryz.func68 rfl (by kernel_rfl) Tryz.ntmps68 rfl rfl fun E hT hE hN hR => ?_
  have hm := mixO hE
  have hx := all_getD hk.2.2.2.2.1 i hi
  (repeat (first | refine XK.n ?_ | refine XK.a ?_ | refine XK.b ?_))
  refine XK.weak (Weak.of (L := [(1, .c (.int .i64 i)), (2, .ptr 2 0), (4, .c (.bool false)), (5, .ptr 165 0), (33, .c (.bool (decide ((k.clauses.getD i default).act < 0) || decide ((k.acts.length : Int) ≤ (k.clauses.getD i default).act) || decide ((k.clauses.getD i default).after < 1) || decide (400 < (k.clauses.getD i default).after))))]) (O := [(2, .cells 27 (kC k)), (165, .cells 56 (clC (k.clauses.getD i default)))]) (nx := 1000) (nt := 160) (md := fun _ => false) hN rfl rfl rfl ⟨rfl, rfl, rfl, rfl, rfl⟩ ⟨⟨rfl, rfl⟩, rfl, rfl⟩) ?_
  generalize k.clauses.getD i default = x at *
  (repeat (first | refine XK.n ?_ | refine XK.a ?_ | refine XK.b ?_)); refine XK.cond rfl (fun h1 => ?_) (fun h1 => ?_)
  · (repeat (first | refine XK.n ?_ | refine XK.a ?_ | refine XK.b ?_))
    (first | refine XK.o ?_ | refine XK.p ?_)
    simp only [clauseB, if_pos h1]
  · rw [clauseB, if_neg (by rw [h1]; simp)]
    (repeat (first | refine XK.n ?_ | refine XK.a ?_ | refine XK.b ?_)); refine XK.region ?_; refine XL.g ?_
    refine XL.callLA hE rfl rfl rfl rfl trivial rfl (validKind_ok k x) rfl ?_
    refine XL.g ?_; refine XL.fin ?_; (repeat (first | refine XK.n ?_ | refine XK.a ?_ | refine XK.b ?_))
    (repeat (first | refine XK.n ?_ | refine XK.a ?_ | refine XK.b ?_)); refine XK.cond rfl (fun h2 => ?_) (fun h2 => ?_)
    · (repeat (first | refine XK.n ?_ | refine XK.a ?_ | refine XK.b ?_))
      (first | refine XK.o ?_ | refine XK.p ?_)
      simp only [if_pos h2]
    · rw [if_neg (by rw [h2]; simp)]
      (repeat (first | refine XK.n ?_ | refine XK.a ?_ | refine XK.b ?_))
      refine XK.fact (Sat.rs_len (j := 45) rfl) fun hlen => ?_
      have hm' := hlen.1
      refine XK.loop (ι := Nat) (fun j => ST.of [(1, .c (.int .i64 i)), (2, .ptr 2 0), (4, .c (.bool false)), (5, .ptr 165 0), (45, cndsV x.start), (46, .c (.int .i64 x.start.length)), (47, .c (.int .i64 j))] [(2, .cells 27 (kC k)), (165, .cells 56 (clC x))] 3000 160 (fun _ => false))
        (fun j => j ≤ x.start.length ∧ ∀ q, q < j → condB k i (x.start.getD q default) = true) (fun j => x.start.length - j) 0 ⟨Nat.zero_le _, fun j hj => absurd hj (Nat.not_lt_zero _)⟩
        (Weak.of hN rfl rfl rfl ⟨rfl, rfl, rfl, rfl, AvIs.refl _, rfl, rfl⟩ ⟨⟨rfl, rfl⟩, rfl, rfl⟩) fun j hj => ?_
      obtain ⟨hj1, hj2⟩ := hj
      (repeat (first | refine XK.n ?_ | refine XK.a ?_ | refine XK.b ?_)); refine XK.cond rfl (fun hlt => ?_) (fun hlt => ?_) <;> (try simp at hlt)
      · (repeat (first | refine XK.n ?_ | refine XK.a ?_ | refine XK.b ?_)); refine XK.cond rfl (fun hb => ?_) (fun hb => ?_)
        · (repeat (first | refine XK.n ?_ | refine XK.a ?_ | refine XK.b ?_))
          (first | refine XK.o ?_ | refine XK.p ?_)
          have : x.start.all (condB k i) = false := all_not hlt (by rw [condB, Bool.not_eq_false']; exact hb)
          rw [if_pos this]
        · (repeat (first | refine XK.n ?_ | refine XK.a ?_ | refine XK.b ?_))
          refine XK.inv ⟨j + 1, ⟨hlt, fun q hq => ?_⟩, Weak.of hN rfl rfl rfl ⟨rfl, rfl, rfl, rfl, AvIs.refl _, rfl, rfl⟩ ⟨⟨rfl, rfl⟩, rfl, rfl⟩, by omega⟩
          by_cases h : q = j
          · subst h
            rw [condB, Bool.not_eq_true']
            exact hb
          · exact hj2 q (by omega)
      · have hall : x.start.all (condB k i) = true := all_at.2 fun q hq => hj2 q (by omega)
        rw [if_neg (by rw [hall]; simp)]
        (repeat (first | refine XK.n ?_ | refine XK.a ?_ | refine XK.b ?_)); refine XK.cond rfl (fun hp => ?_) (fun hp => ?_) <;> (try simp at hp)
        · (repeat (first | refine XK.n ?_ | refine XK.a ?_ | refine XK.b ?_)); refine XK.region ?_; refine XL.g ?_
          refine XL.callGA hE rfl rfl rfl rfl rfl rfl rfl rfl (natural_ok k x.pause) rfl ?_
          refine XL.g ?_
          refine XL.callGA hE rfl rfl rfl rfl rfl rfl rfl rfl (natural_ok k x.resume) rfl ?_
          refine XL.g ?_; refine XL.fin ?_; (repeat (first | refine XK.n ?_ | refine XK.a ?_ | refine XK.b ?_))
          (repeat (first | refine XK.n ?_ | refine XK.a ?_ | refine XK.b ?_)); refine XK.cond rfl (fun hq => ?_) (fun hq => ?_)
          · (repeat (first | refine XK.n ?_ | refine XK.a ?_ | refine XK.b ?_))
            (first | refine XK.o ?_ | refine XK.p ?_)
            rw [if_pos ⟨by simpa using hp, hq⟩]
          · rw [if_neg (by rw [hq]; simp)]
            (repeat (first | refine XK.n ?_ | refine XK.a ?_ | refine XK.b ?_)); refine XK.cond rfl (fun hu => ?_) (fun hu => ?_) <;> (try simp at hu)
            · (repeat (first | refine XK.n ?_ | refine XK.a ?_ | refine XK.b ?_)); refine XK.drawn hm ?_; refine XD.goA hT rfl rfl rfl rfl ?_
              refine XD.callLA hE rfl rfl rfl rfl trivial rfl (none_ok) rfl ?_
              refine XD.goA hT rfl rfl rfl rfl ?_; refine XD.fin (by kernel_rfl) ?_; (repeat (first | refine XK.n ?_ | refine XK.a ?_ | refine XK.b ?_))
              rw [if_pos hu]
              (repeat (first | refine XK.n ?_ | refine XK.a ?_ | refine XK.b ?_))
              (first | refine XK.o ?_ | refine XK.p ?_)
              rfl
            · rw [if_neg hu]
              (repeat (first | refine XK.n ?_ | refine XK.a ?_ | refine XK.b ?_)); refine XK.region ?_; refine XL.g ?_
              refine XL.callGA hE rfl rfl rfl rfl rfl rfl rfl rfl (positive_ok x.value hx.2.2.2.2.2.2.2.2.2.1) rfl ?_
              refine XL.g ?_
              refine XL.callGA hE rfl rfl rfl rfl rfl rfl rfl rfl (movable_ok k x.to) rfl ?_
              refine XL.g ?_; refine XL.fin ?_; (repeat (first | refine XK.n ?_ | refine XK.a ?_ | refine XK.b ?_))
              (repeat (first | refine XK.n ?_ | refine XK.a ?_ | refine XK.b ?_))
              (first | refine XK.o ?_ | refine XK.p ?_)
              rfl
        · rw [if_neg (by simp [hp])]
          (repeat (first | refine XK.n ?_ | refine XK.a ?_ | refine XK.b ?_)); refine XK.cond rfl (fun hu => ?_) (fun hu => ?_) <;> (try simp at hu)
          · (repeat (first | refine XK.n ?_ | refine XK.a ?_ | refine XK.b ?_)); refine XK.drawn hm ?_; refine XD.goA hT rfl rfl rfl rfl ?_
            refine XD.callLA hE rfl rfl rfl rfl trivial rfl (none_ok) rfl ?_
            refine XD.goA hT rfl rfl rfl rfl ?_; refine XD.fin (by kernel_rfl) ?_; (repeat (first | refine XK.n ?_ | refine XK.a ?_ | refine XK.b ?_))
            rw [if_pos hu]
            (repeat (first | refine XK.n ?_ | refine XK.a ?_ | refine XK.b ?_))
            (first | refine XK.o ?_ | refine XK.p ?_)
            rfl
          · rw [if_neg hu]
            (repeat (first | refine XK.n ?_ | refine XK.a ?_ | refine XK.b ?_)); refine XK.region ?_; refine XL.g ?_
            refine XL.callGA hE rfl rfl rfl rfl rfl rfl rfl rfl (positive_ok x.value hx.2.2.2.2.2.2.2.2.2.1) rfl ?_
            refine XL.g ?_
            refine XL.callGA hE rfl rfl rfl rfl rfl rfl rfl rfl (movable_ok k x.to) rfl ?_
            refine XL.g ?_; refine XL.fin ?_; (repeat (first | refine XK.n ?_ | refine XK.a ?_ | refine XK.b ?_))
            (repeat (first | refine XK.n ?_ | refine XK.a ?_ | refine XK.b ?_))
            (first | refine XK.o ?_ | refine XK.p ?_)
            rfl
end
end Go.Proofs.YtlcfoelfcnhenaaGreatDoor
