/- The law MigrateSpans. -/
import Derived.Test.YtofdehlikigonaaGreatH9
import Derived.Test.YtofdehlikigonaaGreatHA
namespace Go.Proofs.YtofdehlikigonaaGreat
open Go.Eng
set_option maxRecDepth 10000
set_option linter.unusedSimpArgs false
set_option linter.unusedVariables false
noncomputable def cU16 : Codec Tryz.prog 51 Int := Codec.int .u16 (show Tryz.prog.underlying 51 = some (.int .u16) from by kernel_rfl) (by kernel_rfl)
def rowI (i : Int) : AV := .rs 1 1 (rowOf [.c (.int .i64 i)] 1)
theorem rowI_is (i : Int) : AvS (rowI i) (intsV [i]) := AvS.rs (fun j hj => by cases Nat.lt_one_iff.1 hj; exact AvSL.refl _)
def rawSp (i n : Int) : AV := .agg [.c (.int .i64 5), rowI i, .c (.int .i64 0), .c (.int .i64 0), .c (.int .i64 0), .c (.int .i64 0), .c (.slice none 0 0), .c (.int .i64 0), .c (.int .i64 0), .c (.bool false), .c (.bool false), .c (.int .i64 0), .c (.int .i64 0), .c (.int .i64 0), .c (.int .i64 0), .c (.int .i64 0), .c (.int .i64 0), .c (.bool false), .c (.int .i64 n)]
theorem rawSp_is (i : Nat) (n : Int) : AvS (rawSp i n) (ptV (spanP i n)) :=
  AvS.agg ⟨AvS.refl _, rowI_is _, AvS.refl _, AvS.refl _, AvS.refl _, AvS.refl _, AvS.nil, AvS.refl _, AvS.refl _, AvS.refl _, AvS.refl _, AvS.refl _, AvS.refl _, AvS.refl _, AvS.refl _, AvS.refl _, AvS.refl _, AvS.refl _, AvS.refl _, trivial⟩
theorem migrateR_one {k : K} {p : Pt} {s : St} (h : validS k s = false) : (migrateR k p s).2 ≠ 0 := by
  unfold migrateR
  rw [if_neg (by rw [h]; simp)]
  simp
theorem lawMP (k : K) (hk : kW k) (s : St) (a b : Int) (ha : 0 ≤ a ∧ a ≤ 65535) (hb : 0 ≤ b ∧ b ≤ 65535) : Does Tryz.prog 5 [kV k, stV s, .c (.int .u16 a), .c (.int .u16 b)] (.c (.bool true)) := by
  refine Does.mk (fun _ => false) TT_ok Tryz.func5 rfl (by kernel_rfl) Tryz.ntmps5 rfl rfl fun E hT hE hN hR => ?_
  have hm : E.P.follows .mixedOrders = true := by rw [hE]; kernel_rfl
  (repeat (first | refine XK.norm rfl rfl ?_ | refine XK.rgnA hT rfl rfl rfl ?_ | refine XK.rgnB hT hm rfl rfl rfl ?_))
  (repeat (first | refine XK.norm rfl rfl ?_ | refine XK.rgnA hT rfl rfl rfl ?_ | refine XK.rgnB hT hm rfl rfl rfl ?_)); refine XK.region ?_; refine XL.goA hT rfl rfl rfl rfl ?_
  refine XL.callLA hE rfl rfl rfl rfl trivial rfl (head27_ok) rfl ?_
  refine XL.goA hT rfl rfl rfl rfl ?_; refine XL.fin ?_; (repeat (first | refine XK.norm rfl rfl ?_ | refine XK.rgnA hT rfl rfl rfl ?_ | refine XK.rgnB hT hm rfl rfl rfl ?_))
  (repeat (first | refine XK.norm rfl rfl ?_ | refine XK.rgnA hT rfl rfl rfl ?_ | refine XK.rgnB hT hm rfl rfl rfl ?_))
  (repeat (first | refine XK.norm rfl rfl ?_ | refine XK.rgnA hT rfl rfl rfl ?_ | refine XK.rgnB hT hm rfl rfl rfl ?_)); refine XK.region ?_; refine XL.goA hT rfl rfl rfl rfl ?_
  refine XL.callLA hE rfl rfl rfl rfl trivial rfl (smallQ_ok k 40) rfl ?_
  refine XL.goA hT rfl rfl rfl rfl ?_
  refine XL.callGA hE rfl rfl rfl rfl rfl rfl rfl rfl (fewS_ok s) rfl ?_
  refine XL.goA hT rfl rfl rfl rfl ?_; refine XL.fin ?_; (repeat (first | refine XK.norm rfl rfl ?_ | refine XK.rgnA hT rfl rfl rfl ?_ | refine XK.rgnB hT hm rfl rfl rfl ?_))
  (repeat (first | refine XK.norm rfl rfl ?_ | refine XK.rgnA hT rfl rfl rfl ?_ | refine XK.rgnB hT hm rfl rfl rfl ?_)); refine XK.cond rfl (fun h1 => ?_) (fun h1 => ?_)
  · (repeat (first | refine XK.norm rfl rfl ?_ | refine XK.rgnA hT rfl rfl rfl ?_ | refine XK.rgnB hT hm rfl rfl rfl ?_))
    (first | refine XK.out rfl rfl rfl ?_ | refine XK.outN rfl rfl rfl ?_)
    rfl
  simp only [Bool.or_eq_false_iff, Bool.not_eq_false'] at h1
  obtain ⟨⟨hsm, hfew⟩, hne⟩ := h1
  have hne : 0 < k.clauses.length := by
    have : (k.clauses.length : Int) ≠ 0 := by simpa using hne
    omega
  have hc40 := smallQ_len hsm
  (repeat (first | refine XK.norm rfl rfl ?_ | refine XK.rgnA hT rfl rfl rfl ?_ | refine XK.rgnB hT hm rfl rfl rfl ?_))
  have ea : a.tmod (k.clauses.length : Int) = ((a.toNat % k.clauses.length : Nat) : Int) := by
    rw [Int.tmod_eq_emod_of_nonneg ha.1, Int.natCast_emod, Int.toNat_of_nonneg ha.1]
  have eb : b.tmod 400 = b % 400 := Int.tmod_eq_emod_of_nonneg hb.1
  have hi : a.toNat % k.clauses.length < k.clauses.length := Nat.mod_lt _ hne
  have hn : 1 ≤ 1 + b % 400 ∧ 1 + b % 400 ≤ 400 := by omega
  rw [ea, eb]
  generalize a.toNat % k.clauses.length = i at *
  generalize 1 + b % 400 = n at *
  have hn2 : inK .i64 n := by show _ ≤ _ ∧ _ ≤ _; omega
  have hp : ptW (spanP i n) := by
    refine ⟨by show inK .i64 5; simp [inK], ?_, zClW, hn2⟩
    intro z hz
    have : z = (i : Int) := by simpa [spanP] using hz
    subst this
    show -9223372036854775808 ≤ (i : Int) ∧ (i : Int) ≤ 9223372036854775807
    omega
  have c1 := (migrate_ok k hk (spanP i n) hp (by simp [spanP]) (by show ([] : List Cnd).length ≤ _; simp) s).argS (args' := [kV k, rawSp i n, stV s]) ⟨AvS.refl _, rawSp_is i n, AvS.refl _, trivial⟩
  have c2 := validS_ok k hk s
  have hmk := fun hv => span_marks (s := s) hk hv hi hn hn2
  have hbad := migrateR_one (k := k) (p := spanP i n) (s := s)
  have hvl := fun hv => validS_len (k := k) (s := s) hv
  generalize migrateR k (spanP i n) s = r at *
  obtain ⟨t, e⟩ := r
  dsimp only at hmk hbad c1
  refine XK.weak (st' := ST.of [(4, .ptr 4 0), (5, .ptr 5 0), (9, .c (.bool true)), (10, .c (.int .i64 i)), (11, .c (.int .i64 n))] [(4, .cells 27 (kC k)), (5, .cells 38 (stC s))] 1000 131 (fun _ => false)) (Weak.of hN rfl rfl rfl (by (repeat' (first | exact rfl | exact AvIs.refl _ | exact trivial | exact fun _ _ => rfl | exact fun _ _ => ⟨rfl, AvIs.refl _⟩ | refine ⟨?_, ?_⟩))) (by (repeat' (first | exact rfl | exact AvIs.refl _ | exact trivial | exact fun _ _ => rfl | exact fun _ _ => ⟨rfl, AvIs.refl _⟩ | refine ⟨?_, ?_⟩)))) ?_
  (repeat (first | refine XK.norm rfl rfl ?_ | refine XK.rgnA hT rfl rfl rfl ?_ | refine XK.rgnB hT hm rfl rfl rfl ?_)); refine XK.region ?_; refine XL.goA hT rfl rfl rfl rfl ?_
  refine XL.callKA hE rfl rfl rfl rfl trivial rfl rfl (c1) ?_
  refine XL.goA hT rfl rfl rfl rfl ?_; refine XL.fin ?_; (repeat (first | refine XK.norm rfl rfl ?_ | refine XK.rgnA hT rfl rfl rfl ?_ | refine XK.rgnB hT hm rfl rfl rfl ?_))
  (repeat (first | refine XK.norm rfl rfl ?_ | refine XK.rgnA hT rfl rfl rfl ?_ | refine XK.rgnB hT hm rfl rfl rfl ?_)); refine XK.cond rfl (fun h2 => ?_) (fun h2 => ?_)
  · have h2 : e ≠ 0 := by simpa using h2
    have hv : validS k s = false := by
      cases hv : validS k s with
      | false => rfl
      | true => exact absurd (hmk hv).1 h2
    rw [hv] at c2
    (repeat (first | refine XK.norm rfl rfl ?_ | refine XK.rgnA hT rfl rfl rfl ?_ | refine XK.rgnB hT hm rfl rfl rfl ?_))
    (repeat (first | refine XK.norm rfl rfl ?_ | refine XK.rgnA hT rfl rfl rfl ?_ | refine XK.rgnB hT hm rfl rfl rfl ?_)); refine XK.region ?_; refine XL.goA hT rfl rfl rfl rfl ?_
    refine XL.callGA hE rfl rfl rfl rfl rfl rfl rfl rfl (c2) rfl ?_
    refine XL.goA hT rfl rfl rfl rfl ?_; refine XL.fin ?_; (repeat (first | refine XK.norm rfl rfl ?_ | refine XK.rgnA hT rfl rfl rfl ?_ | refine XK.rgnB hT hm rfl rfl rfl ?_))
    (first | refine XK.out rfl rfl rfl ?_ | refine XK.outN rfl rfl rfl ?_)
    rfl
  have h2 : e = 0 := by simpa using h2
  subst h2
  have hv : validS k s = true := by
    cases hv : validS k s with
    | true => rfl
    | false => exact absurd rfl (hbad hv)
  obtain ⟨-, q2, q3⟩ := hmk hv
  have q1 := (hvl hv).2.2.2.1
  clear hbad
  (repeat (first | refine XK.norm rfl rfl ?_ | refine XK.rgnA hT rfl rfl rfl ?_ | refine XK.rgnB hT hm rfl rfl rfl ?_)); refine XK.cond rfl (fun h3 => ?_) (fun h3 => ?_)
  · exfalso
    simp only [Bool.or_eq_true, bne_iff_ne] at h3
    omega
  clear h3
  have hF := (show kOk k from ⟨hk, (hvl hv).1⟩).facts
  have hmB := (hvl hv).2.2.2.2.2.2.2 i (by omega)
  simp only [Bool.and_eq_true] at hmB
  have hlB := markB_left hF hi hmB.1
  have hdB := dB_of hF hi
  have fi : s.marks.getD (i : Int).toNat default = s.marks.getD i default := rfl
  have fc : k.clauses.getD (i : Int).toNat default = clAt k i := rfl
  have hq := q3 i (by omega)
  rw [if_pos rfl] at hq
  have fh : t.marks.getD (i : Int).toNat default = spanM n (clAt k i) (s.marks.getD i default) := hq
  clear hmB hvl hmk
  generalize s.marks.getD i default = m at *
  (repeat (first | refine XK.norm rfl rfl ?_ | refine XK.rgnA hT rfl rfl rfl ?_ | refine XK.rgnB hT hm rfl rfl rfl ?_))
  rw [fi]
  (repeat (first | refine XK.norm rfl rfl ?_ | refine XK.rgnA hT rfl rfl rfl ?_ | refine XK.rgnB hT hm rfl rfl rfl ?_)); refine XK.join (ST.of [(4, .ptr 4 0), (5, .ptr 5 0), (9, .c (.bool true)), (10, .c (.int .i64 i)), (12, .ptr 1012 0), (14, .ptr 1407 0)] [(4, .cells 27 (kC k)), (5, .cells 38 (stC s)), (1012, .cells 38 (stC t)), (1407, .cells 47 (mkC (spanM n (clAt k i) m)))] 3000 131 (fun _ => false)) rfl (fun h4 => ?_) (fun h4 => ?_) ?_
  · have h4 : m.status = 1 := by simpa using h4
    have e : spanM n (clAt k i) m = ⟨m.status, max 1 (m.left + n - (clAt k i).after), m.got, m.bearer, m.paused⟩ := by unfold spanM; rw [if_pos h4]
    rw [e]
    obtain ⟨⟨o1, o2⟩, -, -⟩ := hdB
    obtain ⟨o3, o4⟩ := hlB
    (repeat (first | refine XK.norm rfl rfl ?_ | refine XK.rgnA hT rfl rfl rfl ?_ | refine XK.rgnB hT hm rfl rfl rfl ?_))
    rw [fc, mx1]
    exact XK.inv (Weak.of hN rfl rfl rfl (by (repeat' (first | exact rfl | exact AvIs.refl _ | exact trivial | exact fun _ _ => rfl | exact fun _ _ => ⟨rfl, AvIs.refl _⟩ | refine ⟨?_, ?_⟩))) (by (repeat' (first | exact rfl | exact AvIs.refl _ | exact trivial | exact fun _ _ => rfl | exact fun _ _ => ⟨rfl, AvIs.refl _⟩ | refine ⟨?_, ?_⟩))))
  · have h4 : m.status ≠ 1 := by simpa using h4
    rw [spanM_ne h4]
    (repeat (first | refine XK.norm rfl rfl ?_ | refine XK.rgnA hT rfl rfl rfl ?_ | refine XK.rgnB hT hm rfl rfl rfl ?_))
    exact XK.inv (Weak.of hN rfl rfl rfl (by (repeat' (first | exact rfl | exact AvIs.refl _ | exact trivial | exact fun _ _ => rfl | exact fun _ _ => ⟨rfl, AvIs.refl _⟩ | refine ⟨?_, ?_⟩))) (by (repeat' (first | exact rfl | exact AvIs.refl _ | exact trivial | exact fun _ _ => rfl | exact fun _ _ => ⟨rfl, AvIs.refl _⟩ | refine ⟨?_, ?_⟩))))
  generalize spanM n (clAt k i) m = w at *
  (repeat (first | refine XK.norm rfl rfl ?_ | refine XK.rgnA hT rfl rfl rfl ?_ | refine XK.rgnB hT hm rfl rfl rfl ?_))
  refine XK.loop (ι := Nat) (fun j => ST.of [(4, .ptr 4 0), (5, .ptr 5 0), (9, .c (.bool true)), (10, .c (.int .i64 i)), (12, .ptr 1012 0), (14, .ptr 1407 0), (15, .c (.int .i64 j))] [(4, .cells 27 (kC k)), (5, .cells 38 (stC s)), (1012, .cells 38 (stC t)), (1407, .cells 47 (mkC w))] 4000 131 (fun _ => false))
    (fun j => j ≤ s.marks.length) (fun j => s.marks.length - j) 0 (Nat.zero_le _) (Weak.of hN rfl rfl rfl (by (repeat' (first | exact rfl | exact AvIs.refl _ | exact trivial | exact fun _ _ => rfl | exact fun _ _ => ⟨rfl, AvIs.refl _⟩ | refine ⟨?_, ?_⟩))) (by (repeat' (first | exact rfl | exact AvIs.refl _ | exact trivial | exact fun _ _ => rfl | exact fun _ _ => ⟨rfl, AvIs.refl _⟩ | refine ⟨?_, ?_⟩)))) fun j hj => ?_
  (repeat (first | refine XK.norm rfl rfl ?_ | refine XK.rgnA hT rfl rfl rfl ?_ | refine XK.rgnB hT hm rfl rfl rfl ?_)); refine XK.cond rfl (fun hlt => ?_) (fun hlt => ?_) <;> (try simp at hlt)
  · have fa : s.marks.getD (j : Int).toNat default = s.marks.getD j default := rfl
    have fb : t.marks.getD (j : Int).toNat default = t.marks.getD j default := rfl
    have hqj := q3 j hlt
    (repeat (first | refine XK.norm rfl rfl ?_ | refine XK.rgnA hT rfl rfl rfl ?_ | refine XK.rgnB hT hm rfl rfl rfl ?_))
    rw [fa, fb]
    generalize s.marks.getD j default = x at *
    generalize t.marks.getD j default = y at *
    (repeat (first | refine XK.norm rfl rfl ?_ | refine XK.rgnA hT rfl rfl rfl ?_ | refine XK.rgnB hT hm rfl rfl rfl ?_)); refine XK.cond rfl (fun h7 => ?_) (fun h7 => ?_)
    · exfalso
      have h7 : ((j : Int) != (i : Int) && !eqMk x y) = true := h7
      simp only [Bool.and_eq_true, bne_iff_ne, Bool.not_eq_true'] at h7
      rw [if_neg (by omega)] at hqj
      subst hqj
      rw [eqMk_iff.2 rfl] at h7
      cases h7.2
    clear h7
    (repeat (first | refine XK.norm rfl rfl ?_ | refine XK.rgnA hT rfl rfl rfl ?_ | refine XK.rgnB hT hm rfl rfl rfl ?_))
    exact XK.inv ⟨j + 1, hlt, (Weak.of hN rfl rfl rfl (by (repeat' (first | exact rfl | exact AvIs.refl _ | exact trivial | exact fun _ _ => rfl | exact fun _ _ => ⟨rfl, AvIs.refl _⟩ | refine ⟨?_, ?_⟩))) (by (repeat' (first | exact rfl | exact AvIs.refl _ | exact trivial | exact fun _ _ => rfl | exact fun _ _ => ⟨rfl, AvIs.refl _⟩ | refine ⟨?_, ?_⟩)))), by omega⟩
  · (repeat (first | refine XK.norm rfl rfl ?_ | refine XK.rgnA hT rfl rfl rfl ?_ | refine XK.rgnB hT hm rfl rfl rfl ?_))
    (first | refine XK.out rfl rfl rfl ?_ | refine XK.outN rfl rfl rfl ?_)
    rw [fh]
    refine cB ?_
    show (true && eqMk w w) = true
    rw [eqMk_iff.2 rfl]
    rfl
end Go.Proofs.YtofdehlikigonaaGreat
