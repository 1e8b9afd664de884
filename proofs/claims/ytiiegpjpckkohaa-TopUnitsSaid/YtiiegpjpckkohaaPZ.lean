import Derived.Test.YtiiegpjpckkohaaPX
section
/- Contracts: package netting: Pairs. -/
namespace Go.Proofs.Ytiiegpjpckkohaa
open Go.Eng
set_option maxRecDepth 10000
set_option linter.unusedSimpArgs false
set_option linter.unusedVariables false
def prR (l : Nat → Db) (n : Nat) (a b : Nat) : Q × Int := totT (sgnA a b) l n
/-- The error of the first pairs, along a row; along rows. -/
def rowE (l : Nat → Db) (n : Nat) (a : Nat) (s : Int) : Nat → Int
  | 0 => s
  | b + 1 => if rowE l n a s b ≠ 0 then rowE l n a s b else if b ≤ a then rowE l n a s b else (prR l n a b).2
def allE (l : Nat → Db) (n : Nat) (P : Nat) : Nat → Int
  | 0 => 0
  | a + 1 => rowE l n a (allE l n P a) P
theorem rowE_stop {l : Nat → Db} {n a : Nat} {s : Int} {b : Nat} (h : rowE l n a s b ≠ 0) : ∀ m, b ≤ m → rowE l n a s m = rowE l n a s b := by
  intro m hm
  induction m with
  | zero => have : b = 0 := by omega
            rw [this]
  | succ m ih =>
    by_cases h1 : b = m + 1
    · rw [h1]
    · have h2 := ih (by omega)
      simp only [rowE]
      rw [if_pos (by rw [h2]; exact h), h2]
theorem rowE_low {l : Nat → Db} {n a : Nat} {s : Int} : ∀ {b : Nat}, b ≤ a + 1 → rowE l n a s b = s
  | 0, _ => rfl
  | b + 1, h => by
    simp only [rowE]
    have h' : b ≤ a := by omega
    rw [rowE_low (b := b) (by omega), if_pos h']
    split <;> rfl
theorem allE_stop {l : Nat → Db} {n P a : Nat} (h : allE l n P a ≠ 0) : ∀ m, a ≤ m → allE l n P m = allE l n P a := by
  intro m hm
  induction m with
  | zero => have : a = 0 := by omega
            rw [this]
  | succ m ih =>
    by_cases h1 : a = m + 1
    · rw [h1]
    · have h2 := ih (by omega)
      show rowE l n m (allE l n P m) P = _
      rw [rowE_stop (b := 0) (by show allE l n P m ≠ 0; rw [h2]; exact h) P (Nat.zero_le _)]
      exact h2
theorem rowE_zero {l : Nat → Db} {n a : Nat} {s : Int} : ∀ {b : Nat}, rowE l n a s b = 0 → s = 0 ∧ ∀ b', a < b' → b' < b → (prR l n a b').2 = 0
  | 0, h => ⟨h, fun _ _ h => absurd h (Nat.not_lt_zero _)⟩
  | b + 1, h => by
    by_cases h0 : rowE l n a s b = 0
    · obtain ⟨h1, h2⟩ := rowE_zero h0
      refine ⟨h1, fun b' hb hb' => ?_⟩
      by_cases hbb : b' = b
      · subst hbb
        simp only [rowE, h0, ne_eq, not_true_eq_false, if_false] at h
        rw [if_neg (by omega)] at h
        exact h
      · exact h2 b' hb (by omega)
    · rw [rowE_stop h0 (b + 1) (by omega)] at h
      exact absurd h h0
theorem allE_zero {l : Nat → Db} {n P : Nat} : ∀ {a : Nat}, allE l n P a = 0 → ∀ a' b', a' < a → a' < b' → b' < P → (prR l n a' b').2 = 0
  | 0, _, _, _, h, _, _ => absurd h (Nat.not_lt_zero _)
  | a + 1, h, a', b', ha, hb, hP => by
    obtain ⟨h1, h2⟩ := rowE_zero (show rowE l n a (allE l n P a) P = 0 from h)
    by_cases haa : a' = a
    · subst haa; exact h2 b' hb hP
    · exact allE_zero h1 a' b' (by omega) hb hP
/-- The debt of a pair. -/
def prD (a b : Nat) (q : Q) : List Db := if 0 < q.1 then [⟨a, b, q⟩] else if q.1 < 0 then [⟨b, a, sgQ true q⟩] else []
def pairL (l : Nat → Db) (n : Nat) (a : Nat) (s : List Db) : Nat → List Db
  | 0 => s
  | b + 1 => if b ≤ a then pairL l n a s b else pairL l n a s b ++ prD a b (prR l n a b).1
def allL (l : Nat → Db) (n : Nat) (P : Nat) : Nat → List Db
  | 0 => []
  | a + 1 => pairL l n a (allL l n P a) P
theorem pairL_low {l : Nat → Db} {n a : Nat} {s : List Db} : ∀ {b : Nat}, b ≤ a + 1 → pairL l n a s b = s
  | 0, _ => rfl
  | b + 1, h => by
    simp only [pairL]
    rw [pairL_low (b := b) (by omega), if_pos (by omega)]
theorem prD_len (a b : Nat) (q : Q) : (prD a b q).length ≤ 1 := by
  unfold prD
  split
  · simp
  · split <;> simp
theorem pairL_len (l : Nat → Db) (n : Nat) (a : Nat) (s : List Db) : ∀ b, (pairL l n a s b).length ≤ s.length + b
  | 0 => Nat.le_refl _
  | b + 1 => by
    have ih := pairL_len l n a s b
    have := prD_len a b (prR l n a b).1
    simp only [pairL]
    split
    · omega
    · simp only [List.length_append]; omega
theorem allL_len (l : Nat → Db) (n P : Nat) : ∀ a, (allL l n P a).length ≤ a * P
  | 0 => by simp [allL]
  | a + 1 => by
    have ih := allL_len l n P a
    have := pairL_len l n a (allL l n P a) P
    have e : (a + 1) * P = a * P + P := by rw [Nat.add_mul, Nat.one_mul]
    simp only [allL]
    omega
def pairsR (P : Nat) (l : Nat → Db) (n : Nat) : List Db × Int :=
  if netB P n l = false then ([], 1) else if allE l n P P ≠ 0 then ([], allE l n P P) else (allL l n P P, 0)
theorem rowOf_rep {a : AV} {n sz i : Nat} (hi : i < n) : rowOf (List.replicate (n * sz) a) sz i = List.replicate sz a := by
  have : (i + 1) * sz ≤ n * sz := Nat.mul_le_mul_right sz hi
  rw [Nat.add_mul, Nat.one_mul] at this
  simp only [rowOf, List.drop_replicate, List.take_replicate]
  congr 1
  omega
theorem pairs_ok (parties : Nat) (n : Nat) (l : Nat → Db) (hl : ∀ i, i < n → dbW (l i)) : Does Try.prog 19 [.c (.int .i64 parties), dbsV n l] (.tup [dbsV (pairsR parties l n).1.length (fun i => (pairsR parties l n).1.getD i default), .c (.int .i64 (pairsR parties l n).2)]) := by
  refine Does.mk (fun _ => false) TT_ok Try.func19 rfl (by kernel_rfl) Try.ntmps19 rfl rfl fun E hT hE hN hR => ?_
  have hm : E.P.follows .mixedOrders = true := by rw [hE]; kernel_rfl
  (repeat (first | refine XK.norm rfl rfl ?_ | refine XK.rgnA hT rfl rfl rfl ?_ | refine XK.rgnB hT hm rfl rfl rfl ?_)); refine XK.region ?_; refine XL.goA hT rfl rfl rfl rfl ?_
  refine XL.callLA hE rfl rfl rfl rfl trivial rfl (netValid_ok parties n l hl) rfl ?_
  refine XL.goA hT rfl rfl rfl rfl ?_; refine XL.fin ?_; (repeat (first | refine XK.norm rfl rfl ?_ | refine XK.rgnA hT rfl rfl rfl ?_ | refine XK.rgnB hT hm rfl rfl rfl ?_))
  (repeat (first | refine XK.norm rfl rfl ?_ | refine XK.rgnA hT rfl rfl rfl ?_ | refine XK.rgnB hT hm rfl rfl rfl ?_)); refine XK.cond rfl (fun h1 => ?_) (fun h1 => ?_) <;> (try simp at h1)
  · (repeat (first | refine XK.norm rfl rfl ?_ | refine XK.rgnA hT rfl rfl rfl ?_ | refine XK.rgnB hT hm rfl rfl rfl ?_))
    (first | refine XK.outL rfl rfl rfl ?_ | refine XK.outLN rfl rfl rfl ?_)
    rw [pairsR, if_pos h1]
    exact ⟨⟨rfl, rfl⟩, rfl⟩
  · have hR : pairsR parties l n = if allE l n parties parties ≠ 0 then ([], allE l n parties parties) else (allL l n parties parties, 0) := by rw [pairsR, if_neg (by rw [h1]; simp)]
    obtain ⟨⟨hp, hn⟩, hdb⟩ := netB_true.1 h1
    have ht := fun a b : Nat => total2_ok n l (sgnA a b) 46 [.c (.int .i64 a)] [.c (.int .i64 b)] (fun d => by unfold sgnA; split; (· omega); (· split <;> omega)) (fun i hi => (dbB_ok (hdb i hi)).2.2.2.1) (fun d => signA_ok a b d)
    have ht : ∀ a b : Nat, Does Try.prog 45 [dbsV n l, .fn (.func 46) [] [.rptr [.c (.int .i64 a)], .rptr [.c (.int .i64 b)]]] (qr (prR l n a b)) := ht
    rw [hR]
    clear hR
    (repeat (first | refine XK.norm rfl rfl ?_ | refine XK.rgnA hT rfl rfl rfl ?_ | refine XK.rgnB hT hm rfl rfl rfl ?_))
    have hz : ∀ j, j < 144 → rowOf (List.map AV.c ty89.zero) 2 j = qc (0, 0) := fun j hj => by
      rw [show List.map AV.c ty89.zero = List.replicate (144 * 2) (AV.c (.int .i64 0)) from rfl, rowOf_rep hj]
      rfl
    refine XK.loop (ι := Nat × (Nat → Q)) (fun x => ST.of [(0, .c (.int .i64 parties)), (1, dbsV n l), (6, .vptr 180 0 2 0 0), (19, .c (.int .i64 parties)), (20, .c (.int .i64 x.1))] [(180, .vec 89 2 0 144 (fun j => qc (x.2 j)))] 1000 87 (fun _ => false))
      (fun x => x.1 ≤ parties ∧ allE l n parties x.1 = 0 ∧ ∀ a b, a < x.1 → a < b → b < parties → x.2 (12 * a + b) = (prR l n a b).1) (fun x => parties - x.1) (0, fun _ => (0, 0)) ⟨Nat.zero_le _, rfl, fun a b h => absurd h (Nat.not_lt_zero _)⟩ (Weak.of hN rfl rfl rfl (by (repeat' (first | exact rfl | exact AvIs.refl _ | exact trivial | exact fun _ _ => rfl | exact fun _ _ => ⟨rfl, AvIs.refl _⟩ | refine ⟨?_, ?_⟩))) ⟨⟨rfl, rfl, rfl⟩, rfl, fun j hj => (hz j hj).symm⟩) fun x hx => ?_
    obtain ⟨a, g⟩ := x
    obtain ⟨x1, x2, x3⟩ := hx
    simp only at x1 x2 x3
    (repeat (first | refine XK.norm rfl rfl ?_ | refine XK.rgnA hT rfl rfl rfl ?_ | refine XK.rgnB hT hm rfl rfl rfl ?_)); refine XK.cond rfl (fun hlt => ?_) (fun hlt => ?_) <;> (try simp at hlt)
    · have hA : allE l n parties (a + 1) = rowE l n a 0 parties := by show rowE l n a (allE l n parties a) parties = _; rw [x2]
      have hlast := fun h => allE_stop (l := l) (n := n) (P := parties) (a := a + 1) h parties hlt
      (repeat (first | refine XK.norm rfl rfl ?_ | refine XK.rgnA hT rfl rfl rfl ?_ | refine XK.rgnB hT hm rfl rfl rfl ?_))
      refine XK.loop (ι := Nat × (Nat → Q)) (fun y => ST.of [(0, .c (.int .i64 parties)), (1, dbsV n l), (6, .vptr 180 0 2 0 0), (7, .ptr 1094 0), (8, .ptr 1182 0), (19, .c (.int .i64 parties)), (20, .c (.int .i64 a))] [(180, .vec 89 2 0 144 (fun j => qc (y.2 j))), (1094, .cells 3 [.c (.int .i64 a)]), (1182, .cells 3 [.c (.int .i64 y.1)])] 2000 87 (fun _ => false))
        (fun y => a < y.1 ∧ y.1 ≤ parties ∧ rowE l n a 0 y.1 = 0 ∧ (∀ a' b, a' < a → a' < b → b < parties → y.2 (12 * a' + b) = (prR l n a' b).1) ∧ ∀ b, a < b → b < y.1 → y.2 (12 * a + b) = (prR l n a b).1) (fun y => parties - y.1) (a + 1, g) ⟨by simp only; omega, hlt, rowE_low (Nat.le_refl _), x3, fun b h1 h2 => by simp only at h2; omega⟩ (Weak.of hN rfl rfl rfl (by (repeat' (first | exact rfl | exact AvIs.refl _ | exact trivial | exact fun _ _ => rfl | exact fun _ _ => ⟨rfl, AvIs.refl _⟩ | refine ⟨?_, ?_⟩))) (by (repeat' (first | exact rfl | exact AvIs.refl _ | exact trivial | exact fun _ _ => rfl | exact fun _ _ => ⟨rfl, AvIs.refl _⟩ | refine ⟨?_, ?_⟩)))) fun y hy => ?_
      obtain ⟨b, g'⟩ := y
      obtain ⟨y1, y2, y3, y4, y5⟩ := hy
      simp only at y1 y2 y3 y4 y5
      (repeat (first | refine XK.norm rfl rfl ?_ | refine XK.rgnA hT rfl rfl rfl ?_ | refine XK.rgnB hT hm rfl rfl rfl ?_)); refine XK.cond rfl (fun hlb => ?_) (fun hlb => ?_) <;> (try simp at hlb)
      · have hB : rowE l n a 0 (b + 1) = (prR l n a b).2 := by
          simp only [rowE, y3, ne_eq, not_true_eq_false, if_false]
          rw [if_neg (by omega)]
        have hlb2 := fun h => rowE_stop (l := l) (n := n) (a := a) (s := 0) (b := b + 1) h parties hlb
        have ht := ht a b
        (repeat (first | refine XK.norm rfl rfl ?_ | refine XK.rgnA hT rfl rfl rfl ?_ | refine XK.rgnB hT hm rfl rfl rfl ?_)); refine XK.region ?_; refine XL.goA hT rfl rfl rfl rfl ?_
        refine XL.callLA hE rfl rfl rfl rfl trivial rfl (ht) rfl ?_
        refine XL.goA hT rfl rfl rfl rfl ?_; refine XL.fin ?_; (repeat (first | refine XK.norm rfl rfl ?_ | refine XK.rgnA hT rfl rfl rfl ?_ | refine XK.rgnB hT hm rfl rfl rfl ?_))
        (repeat (first | refine XK.norm rfl rfl ?_ | refine XK.rgnA hT rfl rfl rfl ?_ | refine XK.rgnB hT hm rfl rfl rfl ?_)); refine XK.cond rfl (fun h2 => ?_) (fun h2 => ?_) <;> (try simp at h2)
        · (repeat (first | refine XK.norm rfl rfl ?_ | refine XK.rgnA hT rfl rfl rfl ?_ | refine XK.rgnB hT hm rfl rfl rfl ?_))
          (first | refine XK.outL rfl rfl rfl ?_ | refine XK.outLN rfl rfl rfl ?_)
          rw [if_pos (by rw [hlast (by rw [hA, hlb2 (by rw [hB]; exact h2), hB]; exact h2), hA, hlb2 (by rw [hB]; exact h2), hB]; exact h2)]
          rw [hlast (by rw [hA, hlb2 (by rw [hB]; exact h2), hB]; exact h2), hA, hlb2 (by rw [hB]; exact h2), hB]
          exact ⟨⟨rfl, rfl⟩, rfl⟩
        · iterate 4 (first | refine XK.norm rfl rfl ?_ | refine XK.rgnA hT rfl rfl rfl ?_ | refine XK.rgnB hT hm rfl rfl rfl ?_)
          refine XK.weak (Weak.of (L := [(0, .c (.int .i64 parties)), (1, dbsV n l), (6, .vptr 180 0 2 0 0), (7, .ptr 1094 0), (19, .c (.int .i64 parties)), (20, .c (.int .i64 a)), (44, .c (.int .i64 b))]) (O := [(180, .vec 89 2 0 144 (fun j => qc (if j = 12 * a + b then (prR l n a b).1 else g' j))), (1094, .cells 3 [.c (.int .i64 a)])]) (nx := 1174) (nt := 87) (md := fun _ => false) hN rfl rfl rfl (by (repeat' (first | exact rfl | exact AvIs.refl _ | exact trivial | exact fun _ _ => rfl | exact fun _ _ => ⟨rfl, AvIs.refl _⟩ | refine ⟨?_, ?_⟩))) ⟨⟨⟨rfl, rfl, rfl⟩, rfl, fun j hj => ?_⟩, by (repeat' (first | exact rfl | exact AvIs.refl _ | exact trivial | exact fun _ _ => rfl | exact fun _ _ => ⟨rfl, AvIs.refl _⟩ | refine ⟨?_, ?_⟩))⟩) ?_
          · rw [setRowF_eq]
            have e0 : 0 + (a : Int).toNat * 12 + (b : Int).toNat = 12 * a + b := by omega
            rw [e0]
            by_cases hjd : j = 12 * a + b
            · rw [if_pos hjd]; simp only [hjd, if_true]; rfl
            · rw [if_neg hjd]; simp only [if_neg hjd]
          · (repeat (first | refine XK.norm rfl rfl ?_ | refine XK.rgnA hT rfl rfl rfl ?_ | refine XK.rgnB hT hm rfl rfl rfl ?_))
            refine XK.inv ⟨(b + 1, fun x => if x = 12 * a + b then (prR l n a b).1 else g' x), ⟨by simp only; omega, by simp only; omega, by rw [hB]; exact h2, fun a' b' h3 h4 h5 => ?_, fun b' h3 h4 => ?_⟩, (Weak.of hN rfl rfl rfl (by (repeat' (first | exact rfl | exact AvIs.refl _ | exact trivial | exact fun _ _ => rfl | exact fun _ _ => ⟨rfl, AvIs.refl _⟩ | refine ⟨?_, ?_⟩))) (by (repeat' (first | exact rfl | exact AvIs.refl _ | exact trivial | exact fun _ _ => rfl | exact fun _ _ => ⟨rfl, AvIs.refl _⟩ | refine ⟨?_, ?_⟩)))), by simp only; omega⟩
            · show (if _ then _ else _) = _
              rw [if_neg (by omega)]; exact y4 a' b' h3 h4 h5
            · show (if _ then _ else _) = _
              by_cases hbb : b' = b
              · subst hbb; rw [if_pos rfl]
              · rw [if_neg (by omega)]; exact y5 b' h3 (by simp only at h4; omega)
      · (repeat (first | refine XK.norm rfl rfl ?_ | refine XK.rgnA hT rfl rfl rfl ?_ | refine XK.rgnB hT hm rfl rfl rfl ?_))
        refine XK.inv ⟨(a + 1, g'), ⟨hlt, by simp only; rw [hA]; have : b = parties := by omega
                                             rw [← this]; exact y3, fun a' b' h1 h2 h3 => ?_⟩, (Weak.of hN rfl rfl rfl (by (repeat' (first | exact rfl | exact AvIs.refl _ | exact trivial | exact fun _ _ => rfl | exact fun _ _ => ⟨rfl, AvIs.refl _⟩ | refine ⟨?_, ?_⟩))) (by (repeat' (first | exact rfl | exact AvIs.refl _ | exact trivial | exact fun _ _ => rfl | exact fun _ _ => ⟨rfl, AvIs.refl _⟩ | refine ⟨?_, ?_⟩)))), by simp only; omega⟩
        by_cases ha : a' = a
        · subst ha; exact y5 b' h2 (by omega)
        · exact y4 a' b' (by simp only at h1; omega) h2 h3
    · have haP : a = parties := by omega
      subst haP
      rw [if_neg (by rw [x2]; simp)]
      (repeat (first | refine XK.norm rfl rfl ?_ | refine XK.rgnA hT rfl rfl rfl ?_ | refine XK.rgnB hT hm rfl rfl rfl ?_))
      refine XK.loop (ι := Nat) (fun a' => ST.of [(0, .c (.int .i64 a)), (6, .vptr 180 0 2 0 0), (11, .vec 700 0), (46, .c (.int .i64 a)), (47, .c (.int .i64 a'))] [(180, .vec 89 2 0 144 (fun j => qc (g j))), (700, dbRow (allL l n a a'))] 3000 87 (fun _ => false))
        (fun a' => a' ≤ a) (fun a' => a - a') 0 (Nat.zero_le _) (Weak.trans (Weak.ghost (j := 11) (k := 700) (e := 83) (sz := 4) (f := fun _ => []) rfl rfl) (Weak.of hN rfl rfl rfl (by (repeat' (first | exact rfl | exact AvIs.refl _ | exact trivial | exact fun _ _ => rfl | exact fun _ _ => ⟨rfl, AvIs.refl _⟩ | refine ⟨?_, ?_⟩))) ⟨by (repeat' (first | exact rfl | exact AvIs.refl _ | exact trivial | exact fun _ _ => rfl | exact fun _ _ => ⟨rfl, AvIs.refl _⟩ | refine ⟨?_, ?_⟩)), ⟨rfl, rfl, rfl⟩, rfl, fun j hj => absurd hj (Nat.not_lt_zero _)⟩)) fun a' ha => ?_
      (repeat (first | refine XK.norm rfl rfl ?_ | refine XK.rgnA hT rfl rfl rfl ?_ | refine XK.rgnB hT hm rfl rfl rfl ?_)); refine XK.cond rfl (fun hlt2 => ?_) (fun hlt2 => ?_) <;> (try simp at hlt2)
      · have hL0 := allL_len l n a a'
        have hLL : a' * a ≤ 12 * 12 := Nat.mul_le_mul (by omega) (by omega)
        have hL1 : allL l n a (a' + 1) = pairL l n a' (allL l n a a') a := rfl
        generalize allL l n a a' = S at *
        (repeat (first | refine XK.norm rfl rfl ?_ | refine XK.rgnA hT rfl rfl rfl ?_ | refine XK.rgnB hT hm rfl rfl rfl ?_))
        refine XK.loop (ι := Nat) (fun b => ST.of [(0, .c (.int .i64 a)), (6, .vptr 180 0 2 0 0), (11, .vec 700 0), (12, .c (.int .i64 a')), (13, .c (.int .i64 b)), (46, .c (.int .i64 a)), (47, .c (.int .i64 a'))] [(180, .vec 89 2 0 144 (fun j => qc (g j))), (700, dbRow (pairL l n a' S b))] 4000 87 (fun _ => false))
          (fun b => a' < b ∧ b ≤ a) (fun b => a - b) (a' + 1) ⟨by omega, by omega⟩ ?_ fun b hb => ?_
        · rw [pairL_low (Nat.le_refl _)]
          exact (Weak.of hN rfl rfl rfl (by (repeat' (first | exact rfl | exact AvIs.refl _ | exact trivial | exact fun _ _ => rfl | exact fun _ _ => ⟨rfl, AvIs.refl _⟩ | refine ⟨?_, ?_⟩))) (by (repeat' (first | exact rfl | exact AvIs.refl _ | exact trivial | exact fun _ _ => rfl | exact fun _ _ => ⟨rfl, AvIs.refl _⟩ | refine ⟨?_, ?_⟩))))
        obtain ⟨hb1, hb2⟩ := hb
        have hrl := pairL_len l n a' S b
        (repeat (first | refine XK.norm rfl rfl ?_ | refine XK.rgnA hT rfl rfl rfl ?_ | refine XK.rgnB hT hm rfl rfl rfl ?_)); refine XK.cond rfl (fun hlb => ?_) (fun hlb => ?_) <;> (try simp at hlb)
        · have hg := x3 a' b hlt2 hb1 hlb
          have hpe := allE_zero x2 a' b hlt2 hb1 hlb
          have hq : qOk (prR l n a' b).1 = true := totT_qOk hpe
          have hop := opposite_ok (prR l n a' b).1 hq
          have e0 : 0 + (a' : Int).toNat * 12 + (b : Int).toNat = 12 * a' + b := by omega
          have hR1 : pairL l n a' S (b + 1) = pairL l n a' S b ++ prD a' b (prR l n a' b).1 := by
            simp only [pairL]; rw [if_neg (by omega)]
          generalize (prR l n a' b).1 = v at *
          generalize pairL l n a' S b = S1 at *
          (repeat (first | refine XK.norm rfl rfl ?_ | refine XK.rgnA hT rfl rfl rfl ?_ | refine XK.rgnB hT hm rfl rfl rfl ?_))
          rw [e0, hg]
          (repeat (first | refine XK.norm rfl rfl ?_ | refine XK.rgnA hT rfl rfl rfl ?_ | refine XK.rgnB hT hm rfl rfl rfl ?_)); refine XK.cond rfl (fun h4 => ?_) (fun h4 => ?_) <;> (try simp at h4)
          · have hpd : prD a' b v = [⟨a', b, v⟩] := if_pos h4
            rw [hpd] at hR1
            (repeat (first | refine XK.norm rfl rfl ?_ | refine XK.rgnA hT rfl rfl rfl ?_ | refine XK.rgnB hT hm rfl rfl rfl ?_))
            refine XK.inv ⟨b + 1, ⟨by omega, by omega⟩, ?_, by omega⟩
            rw [hR1]
            refine Weak.trans (Weak.stamp (k := 700) (t := 0) hN rfl rfl) (Weak.of hN rfl rfl rfl (by (repeat' (first | exact rfl | exact AvIs.refl _ | exact trivial | exact fun _ _ => rfl | exact fun _ _ => ⟨rfl, AvIs.refl _⟩ | refine ⟨?_, ?_⟩))) ⟨by (repeat' (first | exact rfl | exact AvIs.refl _ | exact trivial | exact fun _ _ => rfl | exact fun _ _ => ⟨rfl, AvIs.refl _⟩ | refine ⟨?_, ?_⟩)), ⟨rfl, rfl, rfl⟩, by simp, fun j hj => (catF_one (g := fun j => dbC ((S1 ++ [Db.mk a' b v]).getD j default)) ?_ ?_ j (by simpa using hj)).symm⟩)
            · simp [dbC]; rfl
            · intro j hj
              simp [List.getElem?_append_left hj]
          · have hpd : prD a' b v = if v.1 < 0 then [⟨b, a', sgQ true v⟩] else [] := if_neg (by omega)
            rw [hpd] at hR1
            (repeat (first | refine XK.norm rfl rfl ?_ | refine XK.rgnA hT rfl rfl rfl ?_ | refine XK.rgnB hT hm rfl rfl rfl ?_)); refine XK.cond rfl (fun h5 => ?_) (fun h5 => ?_) <;> (try simp at h5)
            · rw [if_pos h5] at hR1
              (repeat (first | refine XK.norm rfl rfl ?_ | refine XK.rgnA hT rfl rfl rfl ?_ | refine XK.rgnB hT hm rfl rfl rfl ?_)); refine XK.region ?_; refine XL.goA hT rfl rfl rfl rfl ?_
              refine XL.callLA hE rfl rfl rfl rfl trivial rfl (hop) rfl ?_
              refine XL.goA hT rfl rfl rfl rfl ?_; refine XL.fin ?_; (repeat (first | refine XK.norm rfl rfl ?_ | refine XK.rgnA hT rfl rfl rfl ?_ | refine XK.rgnB hT hm rfl rfl rfl ?_))
              refine XK.inv ⟨b + 1, ⟨by omega, by omega⟩, ?_, by omega⟩
              rw [hR1]
              refine Weak.trans (Weak.stamp (k := 700) (t := 0) hN rfl rfl) (Weak.of hN rfl rfl rfl (by (repeat' (first | exact rfl | exact AvIs.refl _ | exact trivial | exact fun _ _ => rfl | exact fun _ _ => ⟨rfl, AvIs.refl _⟩ | refine ⟨?_, ?_⟩))) ⟨by (repeat' (first | exact rfl | exact AvIs.refl _ | exact trivial | exact fun _ _ => rfl | exact fun _ _ => ⟨rfl, AvIs.refl _⟩ | refine ⟨?_, ?_⟩)), ⟨rfl, rfl, rfl⟩, by simp, fun j hj => (catF_one (g := fun j => dbC ((S1 ++ [Db.mk b a' (sgQ true v)]).getD j default)) ?_ ?_ j (by simpa using hj)).symm⟩)
              · simp [dbC]; rfl
              · intro j hj
                simp [List.getElem?_append_left hj]
            · rw [if_neg (by omega), List.append_nil] at hR1
              (repeat (first | refine XK.norm rfl rfl ?_ | refine XK.rgnA hT rfl rfl rfl ?_ | refine XK.rgnB hT hm rfl rfl rfl ?_))
              refine XK.inv ⟨b + 1, ⟨by omega, by omega⟩, ?_, by omega⟩
              rw [hR1]
              exact (Weak.of hN rfl rfl rfl (by (repeat' (first | exact rfl | exact AvIs.refl _ | exact trivial | exact fun _ _ => rfl | exact fun _ _ => ⟨rfl, AvIs.refl _⟩ | refine ⟨?_, ?_⟩))) (by (repeat' (first | exact rfl | exact AvIs.refl _ | exact trivial | exact fun _ _ => rfl | exact fun _ _ => ⟨rfl, AvIs.refl _⟩ | refine ⟨?_, ?_⟩))))
        · have hba : b = a := by omega
          subst hba
          (repeat (first | refine XK.norm rfl rfl ?_ | refine XK.rgnA hT rfl rfl rfl ?_ | refine XK.rgnB hT hm rfl rfl rfl ?_))
          refine XK.inv ⟨a' + 1, by omega, ?_, by omega⟩
          rw [hL1]
          exact (Weak.of hN rfl rfl rfl (by (repeat' (first | exact rfl | exact AvIs.refl _ | exact trivial | exact fun _ _ => rfl | exact fun _ _ => ⟨rfl, AvIs.refl _⟩ | refine ⟨?_, ?_⟩))) (by (repeat' (first | exact rfl | exact AvIs.refl _ | exact trivial | exact fun _ _ => rfl | exact fun _ _ => ⟨rfl, AvIs.refl _⟩ | refine ⟨?_, ?_⟩))))
      · have haa : a' = a := by omega
        subst haa
        refine XK.weak (Weak.trans (Weak.frozen (k := 700) hN rfl rfl) (Weak.of (L := [(11, dbsV (allL l n a' a').length (fun i => (allL l n a' a').getD i default))]) (O := []) (nx := 5000) (nt := 87) (md := fun _ => false) hN rfl rfl rfl (by (repeat' (first | exact rfl | exact AvIs.refl _ | exact trivial | exact fun _ _ => rfl | exact fun _ _ => ⟨rfl, AvIs.refl _⟩ | refine ⟨?_, ?_⟩))) trivial)) ?_
        (repeat (first | refine XK.norm rfl rfl ?_ | refine XK.rgnA hT rfl rfl rfl ?_ | refine XK.rgnB hT hm rfl rfl rfl ?_))
        (first | refine XK.outL rfl rfl rfl ?_ | refine XK.outLN rfl rfl rfl ?_)
        exact ⟨⟨rfl, rfl, fun i _ => rfl⟩, rfl⟩
end Go.Proofs.Ytiiegpjpckkohaa
end
