/- The law TraceEnds: the walk. -/
import Derived.Test.YtmnnjllimphjhaaPF
namespace Go.Proofs.Ytmnnjllimphjhaa
open Go.Eng
set_option maxRecDepth 10000
set_option linter.unusedSimpArgs false
set_option linter.unusedVariables false
theorem ends_a {k : K} {x : Cl} (hx : ClOk k x) {l : List Int} {n : Nat} {o : Oc} {c : Int × Bool} (h : CInv k x l n o c) : 0 ≤ o.got ∧ (x.kind ≠ 1 → o.got = 0) ∧ (x.kind = 1 → o.got ≤ x.need ∧ (o.got = x.need ↔ o.status = 3)) := by
  have hn := hx.need
  cases h with
  | waived hw ho => subst ho; simp; omega
  | idle hw ho => subst ho; simp; omega
  | run f hw hf hfn ht hst h2 hc0 hc1 hg1 hg =>
    by_cases h1 : x.kind = 1
    · have := hg1 h1
      exact ⟨this.1, fun h => absurd h1 h, fun _ => ⟨by omega, by omega⟩⟩
    · have := hg h1
      exact ⟨by omega, fun _ => this, fun h => absurd h h1⟩
  | fin f t hw hf ht hft htn hd hp he =>
    by_cases h1 : x.kind = 1
    · rcases he with ⟨_, h2, h3, _, _⟩ | ⟨_, h2, h3, _, _⟩
      · have := h3 h1
        rw [if_pos h1] at h2
        exact ⟨this.1, fun h => absurd h1 h, fun _ => ⟨by omega, by omega⟩⟩
      · have := h3 h1
        rw [if_neg (by omega)] at h2
        exact ⟨by omega, fun h => absurd h1 h, fun _ => ⟨by omega, by omega⟩⟩
    · rcases he with ⟨_, _, _, h3, _⟩ | ⟨_, _, _, h3, _⟩ <;> exact ⟨by have := h3 h1; omega, fun _ => h3 h1, fun h => absurd h h1⟩
theorem ends_b {k : K} {x : Cl} (hx : ClOk k x) {l : List Int} {n : Nat} {o : Oc} {c : Int × Bool} (h : CInv k x l n o c) (h1 : 0 ≤ o.from_) (h2 : 0 ≤ o.to) : o.from_ < o.to ∧ o.to ≤ n ∧
    ((o.status = 4 ∧ x.kind = 1 ∨ o.status = 3 ∧ x.kind = 2 ∨ o.status = 5) ↔ l.getD (o.to - 1).toNat default = -1) ∧ (l.getD (o.to - 1).toNat default ≠ -1 → l.getD (o.to - 1).toNat default = x.act) ∧ ¬ (o.status = 5 ∧ x.kind ≤ 2) ∧ ¬ (o.status = 4 ∧ 2 < x.kind) := by
  have hk := hx.kind
  have ha := hx.act
  cases h with
  | waived hw ho => subst ho; simp at h1
  | idle hw ho => subst ho; simp at h1
  | run f hw hf hfn ht => omega
  | fin f t hw hf ht hft htn hd hp he =>
    have e : (o.to - 1).toNat = t := by omega
    rw [e]
    refine ⟨by omega, by omega, ?_⟩
    rcases he with ⟨h3, h4, _⟩ | ⟨h3, h4, _⟩
    · rw [h3]
      by_cases k1 : x.kind = 1
      · rw [if_pos k1] at h4; exact ⟨⟨fun _ => rfl, fun _ => .inl ⟨h4, k1⟩⟩, fun h => absurd rfl h, by omega, by omega⟩
      · rw [if_neg k1] at h4
        by_cases k2 : x.kind = 2
        · rw [if_pos k2] at h4; exact ⟨⟨fun _ => rfl, fun _ => .inr (.inl ⟨h4, k2⟩)⟩, fun h => absurd rfl h, by omega, by omega⟩
        · rw [if_neg k2] at h4; exact ⟨⟨fun _ => rfl, fun _ => .inr (.inr h4)⟩, fun h => absurd rfl h, by omega, by omega⟩
    · rw [h3]
      by_cases k2 : x.kind = 2
      · rw [if_pos k2] at h4; exact ⟨⟨fun h => by omega, fun h => by omega⟩, fun _ => rfl, by omega, by omega⟩
      · rw [if_neg k2] at h4; exact ⟨⟨fun h => by omega, fun h => by omega⟩, fun _ => rfl, by omega, by omega⟩
theorem bne_bool {a b : Bool} : (a != b) = true ↔ ¬ (a = true ↔ b = true) := by cases a <;> cases b <;> simp
theorem small_len {k : K} {m : Nat} (hs : (!smallK k m) = false) : m ≤ 120 ∧ k.off.length ≤ 100 := by
  have hs : smallK k m = true := by simpa using hs
  unfold smallK at hs
  split at hs
  · cases hs
  · rename_i h; simp at h; omega
theorem law14 (k : K) (hk : kW k) (l : List Int) : Does Try.prog 7 [kV k, intsV l] (.c (.bool true)) := by
  refine Does.mk (fun _ => false) TT_ok Try.func7 rfl (by kernel_rfl) Try.ntmps7 rfl rfl fun E hT hE hN => ?_
  have hm : E.P.follows .mixedOrders = true := by rw [hE]; kernel_rfl
  (repeat (first | refine XK.norm rfl rfl ?_ | ((first | refine XK.rgn hT rfl rfl rfl ?_ ?_ | refine XK.rgnD hT hm rfl rfl rfl (by kernel_rfl) ?_ ?_); focus (first | exact trivial | (simp [AllP, impG]; done) | (simp only [AllP, List.append, List.nil_append, List.cons_append, inK, tdiv_nn, tmod_nn, Int.toNat_natCast]; omega) | (simp [AllP, impG, inK, tdiv_nn, tmod_nn]; omega) | ((repeat (first | (focus (first | omega | (intro i hi; first | rfl | (cases Nat.lt_one_iff.1 hi; rfl)) | (simp <;> omega))) | refine ⟨?_, ?_⟩)); done) | (simp only [AllP, impG, inK]; grind))))); refine XK.region ?_; ((refine XL.go hT rfl rfl rfl rfl ?_ ?_); focus (first | exact trivial | (simp [AllP, impG]; done) | (simp only [AllP, List.append, List.nil_append, List.cons_append, inK, tdiv_nn, tmod_nn, Int.toNat_natCast]; omega) | (simp [AllP, impG, inK, tdiv_nn, tmod_nn]; omega) | ((repeat (first | (focus (first | omega | (intro i hi; first | rfl | (cases Nat.lt_one_iff.1 hi; rfl)) | (simp <;> omega))) | refine ⟨?_, ?_⟩)); done) | (simp only [AllP, impG, inK]; grind)))
  ((refine XL.callL hE rfl rfl rfl rfl trivial rfl (head14_ok) ?_ rfl ?_); focus (repeat' (first | exact rfl | exact AvIs.refl _ | exact trivial | (intro i hi; rfl) | exact fun _ _ => ⟨rfl, AvIs.refl _⟩ | (intro i hi; rcases i with _ | _ | _ | _ | _ | _ | _ | i <;> first | rfl | exact absurd hi (by simp; done) | (simp at hi; omega)) | refine ⟨?_, ?_⟩)))
  ((refine XL.go hT rfl rfl rfl rfl ?_ ?_); focus (first | exact trivial | (simp [AllP, impG]; done) | (simp only [AllP, List.append, List.nil_append, List.cons_append, inK, tdiv_nn, tmod_nn, Int.toNat_natCast]; omega) | (simp [AllP, impG, inK, tdiv_nn, tmod_nn]; omega) | ((repeat (first | (focus (first | omega | (intro i hi; first | rfl | (cases Nat.lt_one_iff.1 hi; rfl)) | (simp <;> omega))) | refine ⟨?_, ?_⟩)); done) | (simp only [AllP, impG, inK]; grind))); refine XL.fin ?_; (repeat (first | refine XK.norm rfl rfl ?_ | ((first | refine XK.rgn hT rfl rfl rfl ?_ ?_ | refine XK.rgnD hT hm rfl rfl rfl (by kernel_rfl) ?_ ?_); focus (first | exact trivial | (simp [AllP, impG]; done) | (simp only [AllP, List.append, List.nil_append, List.cons_append, inK, tdiv_nn, tmod_nn, Int.toNat_natCast]; omega) | (simp [AllP, impG, inK, tdiv_nn, tmod_nn]; omega) | ((repeat (first | (focus (first | omega | (intro i hi; first | rfl | (cases Nat.lt_one_iff.1 hi; rfl)) | (simp <;> omega))) | refine ⟨?_, ?_⟩)); done) | (simp only [AllP, impG, inK]; grind)))))
  (repeat (first | refine XK.norm rfl rfl ?_ | ((first | refine XK.rgn hT rfl rfl rfl ?_ ?_ | refine XK.rgnD hT hm rfl rfl rfl (by kernel_rfl) ?_ ?_); focus (first | exact trivial | (simp [AllP, impG]; done) | (simp only [AllP, List.append, List.nil_append, List.cons_append, inK, tdiv_nn, tmod_nn, Int.toNat_natCast]; omega) | (simp [AllP, impG, inK, tdiv_nn, tmod_nn]; omega) | ((repeat (first | (focus (first | omega | (intro i hi; first | rfl | (cases Nat.lt_one_iff.1 hi; rfl)) | (simp <;> omega))) | refine ⟨?_, ?_⟩)); done) | (simp only [AllP, impG, inK]; grind))))); refine XK.region ?_; ((refine XL.go hT rfl rfl rfl rfl ?_ ?_); focus (first | exact trivial | (simp [AllP, impG]; done) | (simp only [AllP, List.append, List.nil_append, List.cons_append, inK, tdiv_nn, tmod_nn, Int.toNat_natCast]; omega) | (simp [AllP, impG, inK, tdiv_nn, tmod_nn]; omega) | ((repeat (first | (focus (first | omega | (intro i hi; first | rfl | (cases Nat.lt_one_iff.1 hi; rfl)) | (simp <;> omega))) | refine ⟨?_, ?_⟩)); done) | (simp only [AllP, impG, inK]; grind)))
  ((refine XL.callL hE rfl rfl rfl rfl trivial rfl (smallK_ok k l) ?_ rfl ?_); focus (repeat' (first | exact rfl | exact AvIs.refl _ | exact trivial | (intro i hi; rfl) | exact fun _ _ => ⟨rfl, AvIs.refl _⟩ | (intro i hi; rcases i with _ | _ | _ | _ | _ | _ | _ | i <;> first | rfl | exact absurd hi (by simp; done) | (simp at hi; omega)) | refine ⟨?_, ?_⟩)))
  ((refine XL.go hT rfl rfl rfl rfl ?_ ?_); focus (first | exact trivial | (simp [AllP, impG]; done) | (simp only [AllP, List.append, List.nil_append, List.cons_append, inK, tdiv_nn, tmod_nn, Int.toNat_natCast]; omega) | (simp [AllP, impG, inK, tdiv_nn, tmod_nn]; omega) | ((repeat (first | (focus (first | omega | (intro i hi; first | rfl | (cases Nat.lt_one_iff.1 hi; rfl)) | (simp <;> omega))) | refine ⟨?_, ?_⟩)); done) | (simp only [AllP, impG, inK]; grind))); refine XL.fin ?_; (repeat (first | refine XK.norm rfl rfl ?_ | ((first | refine XK.rgn hT rfl rfl rfl ?_ ?_ | refine XK.rgnD hT hm rfl rfl rfl (by kernel_rfl) ?_ ?_); focus (first | exact trivial | (simp [AllP, impG]; done) | (simp only [AllP, List.append, List.nil_append, List.cons_append, inK, tdiv_nn, tmod_nn, Int.toNat_natCast]; omega) | (simp [AllP, impG, inK, tdiv_nn, tmod_nn]; omega) | ((repeat (first | (focus (first | omega | (intro i hi; first | rfl | (cases Nat.lt_one_iff.1 hi; rfl)) | (simp <;> omega))) | refine ⟨?_, ?_⟩)); done) | (simp only [AllP, impG, inK]; grind)))))
  (repeat (first | refine XK.norm rfl rfl ?_ | ((first | refine XK.rgn hT rfl rfl rfl ?_ ?_ | refine XK.rgnD hT hm rfl rfl rfl (by kernel_rfl) ?_ ?_); focus (first | exact trivial | (simp [AllP, impG]; done) | (simp only [AllP, List.append, List.nil_append, List.cons_append, inK, tdiv_nn, tmod_nn, Int.toNat_natCast]; omega) | (simp [AllP, impG, inK, tdiv_nn, tmod_nn]; omega) | ((repeat (first | (focus (first | omega | (intro i hi; first | rfl | (cases Nat.lt_one_iff.1 hi; rfl)) | (simp <;> omega))) | refine ⟨?_, ?_⟩)); done) | (simp only [AllP, impG, inK]; grind))))); refine XK.cond rfl (fun hs => ?_) (fun hs => ?_)
  · (repeat (first | refine XK.norm rfl rfl ?_ | ((first | refine XK.rgn hT rfl rfl rfl ?_ ?_ | refine XK.rgnD hT hm rfl rfl rfl (by kernel_rfl) ?_ ?_); focus (first | exact trivial | (simp [AllP, impG]; done) | (simp only [AllP, List.append, List.nil_append, List.cons_append, inK, tdiv_nn, tmod_nn, Int.toNat_natCast]; omega) | (simp [AllP, impG, inK, tdiv_nn, tmod_nn]; omega) | ((repeat (first | (focus (first | omega | (intro i hi; first | rfl | (cases Nat.lt_one_iff.1 hi; rfl)) | (simp <;> omega))) | refine ⟨?_, ?_⟩)); done) | (simp only [AllP, impG, inK]; grind)))))
    (first | refine XK.out rfl rfl rfl ?_ | refine XK.outN rfl rfl rfl ?_)
    rfl
  · have hlen := (small_len hs).1
    (repeat (first | refine XK.norm rfl rfl ?_ | ((first | refine XK.rgn hT rfl rfl rfl ?_ ?_ | refine XK.rgnD hT hm rfl rfl rfl (by kernel_rfl) ?_ ?_); focus (first | exact trivial | (simp [AllP, impG]; done) | (simp only [AllP, List.append, List.nil_append, List.cons_append, inK, tdiv_nn, tmod_nn, Int.toNat_natCast]; omega) | (simp [AllP, impG, inK, tdiv_nn, tmod_nn]; omega) | ((repeat (first | (focus (first | omega | (intro i hi; first | rfl | (cases Nat.lt_one_iff.1 hi; rfl)) | (simp <;> omega))) | refine ⟨?_, ?_⟩)); done) | (simp only [AllP, impG, inK]; grind))))); refine XK.region ?_; ((refine XL.go hT rfl rfl rfl rfl ?_ ?_); focus (first | exact trivial | (simp [AllP, impG]; done) | (simp only [AllP, List.append, List.nil_append, List.cons_append, inK, tdiv_nn, tmod_nn, Int.toNat_natCast]; omega) | (simp [AllP, impG, inK, tdiv_nn, tmod_nn]; omega) | ((repeat (first | (focus (first | omega | (intro i hi; first | rfl | (cases Nat.lt_one_iff.1 hi; rfl)) | (simp <;> omega))) | refine ⟨?_, ?_⟩)); done) | (simp only [AllP, impG, inK]; grind)))
    ((refine XL.callK hE rfl rfl rfl rfl trivial rfl rfl (outcomes_ok k hk l) ?_ ?_); focus (repeat' (first | exact rfl | exact AvIs.refl _ | exact trivial | (intro i hi; rfl) | exact fun _ _ => ⟨rfl, AvIs.refl _⟩ | (intro i hi; rcases i with _ | _ | _ | _ | _ | _ | _ | i <;> first | rfl | exact absurd hi (by simp; done) | (simp at hi; omega)) | refine ⟨?_, ?_⟩)))
    ((refine XL.go hT rfl rfl rfl rfl ?_ ?_); focus (first | exact trivial | (simp [AllP, impG]; done) | (simp only [AllP, List.append, List.nil_append, List.cons_append, inK, tdiv_nn, tmod_nn, Int.toNat_natCast]; omega) | (simp [AllP, impG, inK, tdiv_nn, tmod_nn]; omega) | ((repeat (first | (focus (first | omega | (intro i hi; first | rfl | (cases Nat.lt_one_iff.1 hi; rfl)) | (simp <;> omega))) | refine ⟨?_, ?_⟩)); done) | (simp only [AllP, impG, inK]; grind))); refine XL.fin ?_; (repeat (first | refine XK.norm rfl rfl ?_ | ((first | refine XK.rgn hT rfl rfl rfl ?_ ?_ | refine XK.rgnD hT hm rfl rfl rfl (by kernel_rfl) ?_ ?_); focus (first | exact trivial | (simp [AllP, impG]; done) | (simp only [AllP, List.append, List.nil_append, List.cons_append, inK, tdiv_nn, tmod_nn, Int.toNat_natCast]; omega) | (simp [AllP, impG, inK, tdiv_nn, tmod_nn]; omega) | ((repeat (first | (focus (first | omega | (intro i hi; first | rfl | (cases Nat.lt_one_iff.1 hi; rfl)) | (simp <;> omega))) | refine ⟨?_, ?_⟩)); done) | (simp only [AllP, impG, inK]; grind)))))
    (repeat (first | refine XK.norm rfl rfl ?_ | ((first | refine XK.rgn hT rfl rfl rfl ?_ ?_ | refine XK.rgnD hT hm rfl rfl rfl (by kernel_rfl) ?_ ?_); focus (first | exact trivial | (simp [AllP, impG]; done) | (simp only [AllP, List.append, List.nil_append, List.cons_append, inK, tdiv_nn, tmod_nn, Int.toNat_natCast]; omega) | (simp [AllP, impG, inK, tdiv_nn, tmod_nn]; omega) | ((repeat (first | (focus (first | omega | (intro i hi; first | rfl | (cases Nat.lt_one_iff.1 hi; rfl)) | (simp <;> omega))) | refine ⟨?_, ?_⟩)); done) | (simp only [AllP, impG, inK]; grind))))); refine XK.cond rfl (fun h1 => ?_) (fun h1 => ?_)
    · (repeat (first | refine XK.norm rfl rfl ?_ | ((first | refine XK.rgn hT rfl rfl rfl ?_ ?_ | refine XK.rgnD hT hm rfl rfl rfl (by kernel_rfl) ?_ ?_); focus (first | exact trivial | (simp [AllP, impG]; done) | (simp only [AllP, List.append, List.nil_append, List.cons_append, inK, tdiv_nn, tmod_nn, Int.toNat_natCast]; omega) | (simp [AllP, impG, inK, tdiv_nn, tmod_nn]; omega) | ((repeat (first | (focus (first | omega | (intro i hi; first | rfl | (cases Nat.lt_one_iff.1 hi; rfl)) | (simp <;> omega))) | refine ⟨?_, ?_⟩)); done) | (simp only [AllP, impG, inK]; grind)))))
      (first | refine XK.out rfl rfl rfl ?_ | refine XK.outN rfl rfl rfl ?_)
      rfl
    · have h1 : checkR k l = 0 := by simpa using h1
      obtain ⟨h2, h3, h4, -⟩ := checkR_ok hk h1
      have hf := h2.facts
      have hnc := hf.nc
      have hon : outsN k l = k.clauses.length := by rw [outsN, if_pos h1]
      rw [hon]
      (repeat (first | refine XK.norm rfl rfl ?_ | ((first | refine XK.rgn hT rfl rfl rfl ?_ ?_ | refine XK.rgnD hT hm rfl rfl rfl (by kernel_rfl) ?_ ?_); focus (first | exact trivial | (simp [AllP, impG]; done) | (simp only [AllP, List.append, List.nil_append, List.cons_append, inK, tdiv_nn, tmod_nn, Int.toNat_natCast]; omega) | (simp [AllP, impG, inK, tdiv_nn, tmod_nn]; omega) | ((repeat (first | (focus (first | omega | (intro i hi; first | rfl | (cases Nat.lt_one_iff.1 hi; rfl)) | (simp <;> omega))) | refine ⟨?_, ?_⟩)); done) | (simp only [AllP, impG, inK]; grind))))); refine XK.cond rfl (fun h5 => ?_) (fun h5 => ?_)
      · simp at h5
      · (repeat (first | refine XK.norm rfl rfl ?_ | ((first | refine XK.rgn hT rfl rfl rfl ?_ ?_ | refine XK.rgnD hT hm rfl rfl rfl (by kernel_rfl) ?_ ?_); focus (first | exact trivial | (simp [AllP, impG]; done) | (simp only [AllP, List.append, List.nil_append, List.cons_append, inK, tdiv_nn, tmod_nn, Int.toNat_natCast]; omega) | (simp [AllP, impG, inK, tdiv_nn, tmod_nn]; omega) | ((repeat (first | (focus (first | omega | (intro i hi; first | rfl | (cases Nat.lt_one_iff.1 hi; rfl)) | (simp <;> omega))) | refine ⟨?_, ?_⟩)); done) | (simp only [AllP, impG, inK]; grind)))))
        refine XK.loop (ι := Nat) (fun i => ST.of [(1, intsV l), (2, .ptr 2 0), (5, .c (.bool true)), (6, ocsV k.clauses.length (followR k l l.length).out), (8, .c (.int .i64 i))] [(2, .cells 27 (kC k))] 2000 170 (fun _ => false))
          (fun i => i ≤ k.clauses.length) (fun i => k.clauses.length - i) 0 (Nat.zero_le _)
          (Weak.of hN rfl rfl rfl (by (repeat' (first | exact rfl | exact AvIs.refl _ | exact trivial | exact fun _ _ => rfl | exact fun _ _ => ⟨rfl, AvIs.refl _⟩ | refine ⟨?_, ?_⟩))) (by (repeat' (first | exact rfl | exact AvIs.refl _ | exact trivial | exact fun _ _ => rfl | exact fun _ _ => ⟨rfl, AvIs.refl _⟩ | refine ⟨?_, ?_⟩)))) fun i hi => ?_
        (repeat (first | refine XK.norm rfl rfl ?_ | ((first | refine XK.rgn hT rfl rfl rfl ?_ ?_ | refine XK.rgnD hT hm rfl rfl rfl (by kernel_rfl) ?_ ?_); focus (first | exact trivial | (simp [AllP, impG]; done) | (simp only [AllP, List.append, List.nil_append, List.cons_append, inK, tdiv_nn, tmod_nn, Int.toNat_natCast]; omega) | (simp [AllP, impG, inK, tdiv_nn, tmod_nn]; omega) | ((repeat (first | (focus (first | omega | (intro i hi; first | rfl | (cases Nat.lt_one_iff.1 hi; rfl)) | (simp <;> omega))) | refine ⟨?_, ?_⟩)); done) | (simp only [AllP, impG, inK]; grind))))); refine XK.cond rfl (fun hlt => ?_) (fun hlt => ?_) <;> (try simp at hlt)
        · have hc := clause_inv hf h3 hlt l.length (Nat.le_refl _) (by omega)
          have hx := hf.clOk hlt
          have hxw := hf.clW' hlt
          have ha := ends_a hx hc
          have fc : k.clauses.getD (i : Int).toNat default = clAt k i := rfl
          have fo : (followR k l l.length).out (i : Int).toNat = (followR k l l.length).out i := rfl
          have hb := ends_b hx hc
          clear hc
          (repeat (first | refine XK.norm rfl rfl ?_ | ((first | refine XK.rgn hT rfl rfl rfl ?_ ?_ | refine XK.rgnD hT hm rfl rfl rfl (by kernel_rfl) ?_ ?_); focus (first | exact trivial | (simp [AllP, impG]; done) | (simp only [AllP, List.append, List.nil_append, List.cons_append, inK, tdiv_nn, tmod_nn, Int.toNat_natCast]; omega) | (simp [AllP, impG, inK, tdiv_nn, tmod_nn]; omega) | ((repeat (first | (focus (first | omega | (intro i hi; first | rfl | (cases Nat.lt_one_iff.1 hi; rfl)) | (simp <;> omega))) | refine ⟨?_, ?_⟩)); done) | (simp only [AllP, impG, inK]; grind)))))
          rw [fc, fo]
          generalize clAt k i = x at *
          generalize (followR k l l.length).out i = o at *
          (repeat (first | refine XK.norm rfl rfl ?_ | ((first | refine XK.rgn hT rfl rfl rfl ?_ ?_ | refine XK.rgnD hT hm rfl rfl rfl (by kernel_rfl) ?_ ?_); focus (first | exact trivial | (simp [AllP, impG]; done) | (simp only [AllP, List.append, List.nil_append, List.cons_append, inK, tdiv_nn, tmod_nn, Int.toNat_natCast]; omega) | (simp [AllP, impG, inK, tdiv_nn, tmod_nn]; omega) | ((repeat (first | (focus (first | omega | (intro i hi; first | rfl | (cases Nat.lt_one_iff.1 hi; rfl)) | (simp <;> omega))) | refine ⟨?_, ?_⟩)); done) | (simp only [AllP, impG, inK]; grind))))); refine XK.cond rfl (fun h6 => ?_) (fun h6 => ?_)
          · exfalso
            have e : x.kind = 1 → ((o.got == x.need) == (o.status == 3)) = true := fun h => by
              rw [beq_iff_eq, Bool.eq_iff_iff, beq_iff_eq, beq_iff_eq]; exact (ha.2.2 h).2
            by_cases k1 : x.kind = 1
            · have := ha.2.2 k1
              rw [e k1] at h6
              simp [k1] at h6
              omega
            · have := ha.2.1 k1
              simp [k1, this] at h6
          · (repeat (first | refine XK.norm rfl rfl ?_ | ((first | refine XK.rgn hT rfl rfl rfl ?_ ?_ | refine XK.rgnD hT hm rfl rfl rfl (by kernel_rfl) ?_ ?_); focus (first | exact trivial | (simp [AllP, impG]; done) | (simp only [AllP, List.append, List.nil_append, List.cons_append, inK, tdiv_nn, tmod_nn, Int.toNat_natCast]; omega) | (simp [AllP, impG, inK, tdiv_nn, tmod_nn]; omega) | ((repeat (first | (focus (first | omega | (intro i hi; first | rfl | (cases Nat.lt_one_iff.1 hi; rfl)) | (simp <;> omega))) | refine ⟨?_, ?_⟩)); done) | (simp only [AllP, impG, inK]; grind))))); refine XK.cond rfl (fun h7 => ?_) (fun h7 => ?_)
            · (repeat (first | refine XK.norm rfl rfl ?_ | ((first | refine XK.rgn hT rfl rfl rfl ?_ ?_ | refine XK.rgnD hT hm rfl rfl rfl (by kernel_rfl) ?_ ?_); focus (first | exact trivial | (simp [AllP, impG]; done) | (simp only [AllP, List.append, List.nil_append, List.cons_append, inK, tdiv_nn, tmod_nn, Int.toNat_natCast]; omega) | (simp [AllP, impG, inK, tdiv_nn, tmod_nn]; omega) | ((repeat (first | (focus (first | omega | (intro i hi; first | rfl | (cases Nat.lt_one_iff.1 hi; rfl)) | (simp <;> omega))) | refine ⟨?_, ?_⟩)); done) | (simp only [AllP, impG, inK]; grind)))))
              exact XK.inv ⟨i + 1, hlt, (Weak.of hN rfl rfl rfl (by (repeat' (first | exact rfl | exact AvIs.refl _ | exact trivial | exact fun _ _ => rfl | exact fun _ _ => ⟨rfl, AvIs.refl _⟩ | refine ⟨?_, ?_⟩))) (by (repeat' (first | exact rfl | exact AvIs.refl _ | exact trivial | exact fun _ _ => rfl | exact fun _ _ => ⟨rfl, AvIs.refl _⟩ | refine ⟨?_, ?_⟩)))), by omega⟩
            · have h7 : 0 ≤ o.from_ ∧ 0 ≤ o.to := by
                simp only [Bool.or_eq_false_iff, decide_eq_false_iff_not] at h7
                omega
              have hb := hb h7.1 h7.2
              (repeat (first | refine XK.norm rfl rfl ?_ | ((first | refine XK.rgn hT rfl rfl rfl ?_ ?_ | refine XK.rgnD hT hm rfl rfl rfl (by kernel_rfl) ?_ ?_); focus (first | exact trivial | (simp [AllP, impG]; done) | (simp only [AllP, List.append, List.nil_append, List.cons_append, inK, tdiv_nn, tmod_nn, Int.toNat_natCast]; omega) | (simp [AllP, impG, inK, tdiv_nn, tmod_nn]; omega) | ((repeat (first | (focus (first | omega | (intro i hi; first | rfl | (cases Nat.lt_one_iff.1 hi; rfl)) | (simp <;> omega))) | refine ⟨?_, ?_⟩)); done) | (simp only [AllP, impG, inK]; grind))))); refine XK.cond rfl (fun h8 => ?_) (fun h8 => ?_)
              · exfalso
                simp only [Bool.or_eq_true, decide_eq_true_eq] at h8
                omega
              · (repeat (first | refine XK.norm rfl rfl ?_ | ((first | refine XK.rgn hT rfl rfl rfl ?_ ?_ | refine XK.rgnD hT hm rfl rfl rfl (by kernel_rfl) ?_ ?_); focus (first | exact trivial | (simp [AllP, impG]; done) | (simp only [AllP, List.append, List.nil_append, List.cons_append, inK, tdiv_nn, tmod_nn, Int.toNat_natCast]; omega) | (simp [AllP, impG, inK, tdiv_nn, tmod_nn]; omega) | ((repeat (first | (focus (first | omega | (intro i hi; first | rfl | (cases Nat.lt_one_iff.1 hi; rfl)) | (simp <;> omega))) | refine ⟨?_, ?_⟩)); done) | (simp only [AllP, impG, inK]; grind))))); refine XK.cond rfl (fun h9 => ?_) (fun h9 => ?_)
                · exfalso
                  obtain ⟨b1, b2, b3, b4, b5, b6⟩ := hb
                  have e : ((o.status == 4 && x.kind == 1 || o.status == 3 && x.kind == 2 || o.status == 5) == (l.getD (o.to - 1).toNat default == -1)) = true := by
                    rw [beq_iff_eq, Bool.eq_iff_iff, beq_iff_eq, ← b3]
                    simp [or_assoc]
                  rw [e] at h9
                  by_cases q : l.getD (o.to - 1).toNat default = -1
                  · rw [beq_iff_eq.1 e, q] at h9
                    simp at h9
                  · rw [b4 q] at h9
                    simp at h9
                · (repeat (first | refine XK.norm rfl rfl ?_ | ((first | refine XK.rgn hT rfl rfl rfl ?_ ?_ | refine XK.rgnD hT hm rfl rfl rfl (by kernel_rfl) ?_ ?_); focus (first | exact trivial | (simp [AllP, impG]; done) | (simp only [AllP, List.append, List.nil_append, List.cons_append, inK, tdiv_nn, tmod_nn, Int.toNat_natCast]; omega) | (simp [AllP, impG, inK, tdiv_nn, tmod_nn]; omega) | ((repeat (first | (focus (first | omega | (intro i hi; first | rfl | (cases Nat.lt_one_iff.1 hi; rfl)) | (simp <;> omega))) | refine ⟨?_, ?_⟩)); done) | (simp only [AllP, impG, inK]; grind))))); refine XK.cond rfl (fun h10 => ?_) (fun h10 => ?_)
                  · exfalso
                    obtain ⟨b1, b2, b3, b4, b5, b6⟩ := hb
                    simp at h10
                    omega
                  · (repeat (first | refine XK.norm rfl rfl ?_ | ((first | refine XK.rgn hT rfl rfl rfl ?_ ?_ | refine XK.rgnD hT hm rfl rfl rfl (by kernel_rfl) ?_ ?_); focus (first | exact trivial | (simp [AllP, impG]; done) | (simp only [AllP, List.append, List.nil_append, List.cons_append, inK, tdiv_nn, tmod_nn, Int.toNat_natCast]; omega) | (simp [AllP, impG, inK, tdiv_nn, tmod_nn]; omega) | ((repeat (first | (focus (first | omega | (intro i hi; first | rfl | (cases Nat.lt_one_iff.1 hi; rfl)) | (simp <;> omega))) | refine ⟨?_, ?_⟩)); done) | (simp only [AllP, impG, inK]; grind)))))
                    exact XK.inv ⟨i + 1, hlt, (Weak.of hN rfl rfl rfl (by (repeat' (first | exact rfl | exact AvIs.refl _ | exact trivial | exact fun _ _ => rfl | exact fun _ _ => ⟨rfl, AvIs.refl _⟩ | refine ⟨?_, ?_⟩))) (by (repeat' (first | exact rfl | exact AvIs.refl _ | exact trivial | exact fun _ _ => rfl | exact fun _ _ => ⟨rfl, AvIs.refl _⟩ | refine ⟨?_, ?_⟩)))), by omega⟩
        · (repeat (first | refine XK.norm rfl rfl ?_ | ((first | refine XK.rgn hT rfl rfl rfl ?_ ?_ | refine XK.rgnD hT hm rfl rfl rfl (by kernel_rfl) ?_ ?_); focus (first | exact trivial | (simp [AllP, impG]; done) | (simp only [AllP, List.append, List.nil_append, List.cons_append, inK, tdiv_nn, tmod_nn, Int.toNat_natCast]; omega) | (simp [AllP, impG, inK, tdiv_nn, tmod_nn]; omega) | ((repeat (first | (focus (first | omega | (intro i hi; first | rfl | (cases Nat.lt_one_iff.1 hi; rfl)) | (simp <;> omega))) | refine ⟨?_, ?_⟩)); done) | (simp only [AllP, impG, inK]; grind)))))
          (first | refine XK.out rfl rfl rfl ?_ | refine XK.outN rfl rfl rfl ?_)
          rfl
end Go.Proofs.Ytmnnjllimphjhaa
