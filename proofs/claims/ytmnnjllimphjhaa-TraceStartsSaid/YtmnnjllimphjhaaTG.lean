/- The law TraceDays: the walk. -/
import Derived.Test.YtmnnjllimphjhaaTF
namespace Go.Proofs.Ytmnnjllimphjhaa
open Go.Eng
set_option maxRecDepth 10000
set_option linter.unusedSimpArgs false
set_option linter.unusedVariables false
theorem daysTo_mono (l : List Int) {a b : Nat} (h : a ≤ b) : daysTo l a ≤ daysTo l b := by
  induction b with
  | zero => cases Nat.le_zero.1 h; exact Int.le_refl _
  | succ n ih =>
    by_cases h1 : a = n + 1
    · subst h1; exact Int.le_refl _
    · have := ih (by omega)
      simp only [daysTo]
      split <;> omega
theorem days_a {k : K} {x : Cl} (hx : ClOk k x) {l : List Int} {n : Nat} {o : Oc} {c : Int × Bool} (h : CInv k x l n o c) (h1 : 0 ≤ o.from_) : ∃ f t : Nat, o.from_ = f ∧ (if o.to < 0 then (n : Int) else o.to) = t ∧ f ≤ t ∧ t ≤ n ∧ o.to ≠ 0 ∧
    (0 ≤ o.to → 0 < t) ∧
    (0 ≤ o.to ∧ l.getD (t - 1) default = -1 → x.after + x.grace ≤ daysTo l t - daysTo l f ∧ (plainC k x → daysTo l t - daysTo l f = x.after + x.grace)) ∧
    (¬ (0 ≤ o.to ∧ l.getD (t - 1) default = -1) → plainC k x → daysTo l t - daysTo l f < x.after + x.grace ∧ (o.to < 0 → (o.status = 2 ↔ x.kind = 1 ∧ 0 < x.grace ∧ x.after ≤ daysTo l t - daysTo l f))) ∧
    (o.status = 2 → x.kind = 1 ∧ 0 < x.grace ∧ x.after ≤ daysTo l t - daysTo l f) := by
  have hk := hx.kind
  have ha := hx.act
  have hgk := hx.graceK
  have hg := hx.grace
  have haf := hx.after
  cases h with
  | waived hw ho => subst ho; simp at h1
  | idle hw ho => subst ho; simp at h1
  | run f hw hf hfn ht hst h2 hc0 hc1 hg1 hg hd hp =>
    refine ⟨f, n, hf, by rw [if_pos (by omega)], hfn, Nat.le_refl _, by omega, fun h => by omega, fun h => by omega, fun _ hpl => ?_, fun h => ?_⟩
    · have := (hp hpl).1
      refine ⟨by omega, fun _ => ⟨fun h => ?_, fun h => ?_⟩⟩
      · have h3 := h2.1 h
        refine ⟨?_, by omega, by omega⟩
        by_cases k1 : x.kind = 1
        · exact k1
        · have := hgk k1; omega
      · exact h2.2 (by omega)
    · have h3 := h2.1 h
      refine ⟨?_, by omega, by omega⟩
      by_cases k1 : x.kind = 1
      · exact k1
      · have := hgk k1; omega
  | fin f t hw hf ht hft htn hd hp he =>
    refine ⟨f, t + 1, hf, by rw [if_neg (by omega), ht], by omega, by omega, by omega, fun h => by omega, fun h => ?_, fun h hpl => ?_, fun h => ?_⟩
    · rcases he with ⟨h3, h4, h5, h6, h7⟩ | ⟨h3, h4, h5, h6, h7⟩
      · exact ⟨by omega, fun hpl => by have := hp hpl; omega⟩
      · have := h.2
        simp only [Nat.add_sub_cancel] at this
        omega
    · rcases he with ⟨h3, h4, h5, h6, h7⟩ | ⟨h3, h4, h5, h6, h7⟩
      · exact absurd ⟨by omega, h3⟩ h
      · have := hp hpl
        exact ⟨by omega, fun h => by omega⟩
    · rcases he with ⟨h3, h4, h5, h6, h7⟩ | ⟨h3, h4, h5, h6, h7⟩ <;> rw [h] at h4 <;> (repeat' split at h4) <;> omega
theorem law8 (k : K) (hk : kW k) (l : List Int) : Does Try.prog 8 [kV k, intsV l] (.c (.bool true)) := by
  refine Does.mk (fun _ => false) TT_ok Try.func8 rfl (by kernel_rfl) Try.ntmps8 rfl rfl fun E hT hE hN => ?_
  have hm : E.P.follows .mixedOrders = true := by rw [hE]; kernel_rfl
  (repeat (first | refine XK.norm rfl rfl ?_ | ((first | refine XK.rgn hT rfl rfl rfl ?_ ?_ | refine XK.rgnD hT hm rfl rfl rfl (by kernel_rfl) ?_ ?_); focus (first | exact trivial | (simp [AllP, impG]; done) | (simp only [AllP, List.append, List.nil_append, List.cons_append, inK, tdiv_nn, tmod_nn, Int.toNat_natCast]; omega) | (simp [AllP, impG, inK, tdiv_nn, tmod_nn]; omega) | ((repeat (first | (focus (first | omega | (intro i hi; first | rfl | (cases Nat.lt_one_iff.1 hi; rfl)) | (simp <;> omega))) | refine ⟨?_, ?_⟩)); done) | (simp only [AllP, impG, inK]; grind))))); refine XK.region ?_; ((refine XL.go hT rfl rfl rfl rfl ?_ ?_); focus (first | exact trivial | (simp [AllP, impG]; done) | (simp only [AllP, List.append, List.nil_append, List.cons_append, inK, tdiv_nn, tmod_nn, Int.toNat_natCast]; omega) | (simp [AllP, impG, inK, tdiv_nn, tmod_nn]; omega) | ((repeat (first | (focus (first | omega | (intro i hi; first | rfl | (cases Nat.lt_one_iff.1 hi; rfl)) | (simp <;> omega))) | refine ⟨?_, ?_⟩)); done) | (simp only [AllP, impG, inK]; grind)))
  ((refine XL.callL hE rfl rfl rfl rfl trivial rfl (head14_ok) ?_ rfl ?_); focus (repeat' (first | exact rfl | exact AvIs.refl _ | exact trivial | (intro i hi; rfl) | exact fun _ _ => ⟨rfl, AvIs.refl _⟩ | (intro i hi; rcases i with _ | _ | _ | _ | _ | _ | _ | i <;> first | rfl | exact absurd hi (by simp; done) | (simp at hi; omega)) | refine ⟨?_, ?_⟩)))
  ((refine XL.go hT rfl rfl rfl rfl ?_ ?_); focus (first | exact trivial | (simp [AllP, impG]; done) | (simp only [AllP, List.append, List.nil_append, List.cons_append, inK, tdiv_nn, tmod_nn, Int.toNat_natCast]; omega) | (simp [AllP, impG, inK, tdiv_nn, tmod_nn]; omega) | ((repeat (first | (focus (first | omega | (intro i hi; first | rfl | (cases Nat.lt_one_iff.1 hi; rfl)) | (simp <;> omega))) | refine ⟨?_, ?_⟩)); done) | (simp only [AllP, impG, inK]; grind))); refine XL.fin ?_; (repeat (first | refine XK.norm rfl rfl ?_ | ((first | refine XK.rgn hT rfl rfl rfl ?_ ?_ | refine XK.rgnD hT hm rfl rfl rfl (by kernel_rfl) ?_ ?_); focus (first | exact trivial | (simp [AllP, impG]; done) | (simp only [AllP, List.append, List.nil_append, List.cons_append, inK, tdiv_nn, tmod_nn, Int.toNat_natCast]; omega) | (simp [AllP, impG, inK, tdiv_nn, tmod_nn]; omega) | ((repeat (first | (focus (first | omega | (intro i hi; first | rfl | (cases Nat.lt_one_iff.1 hi; rfl)) | (simp <;> omega))) | refine ⟨?_, ?_⟩)); done) | (simp only [AllP, impG, inK]; grind)))))
  (repeat (first | refine XK.norm rfl rfl ?_ | ((first | refine XK.rgn hT rfl rfl rfl ?_ ?_ | refine XK.rgnD hT hm rfl rfl rfl (by kernel_rfl) ?_ ?_); focus (first | exact trivial | (simp [AllP, impG]; done) | (simp only [AllP, List.append, List.nil_append, List.cons_append, inK, tdiv_nn, tmod_nn, Int.toNat_natCast]; omega) | (simp [AllP, impG, inK, tdiv_nn, tmod_nn]; omega) | ((repeat (first | (focus (first | omega | (intro i hi; first | rfl | (cases Nat.lt_one_iff.1 hi; rfl)) | (simp <;> omega))) | refine ⟨?_, ?_⟩)); done) | (simp only [AllP, impG, inK]; grind))))); refine XK.region ?_; ((refine XL.go hT rfl rfl rfl rfl ?_ ?_); focus (first | exact trivial | (simp [AllP, impG]; done) | (simp only [AllP, List.append, List.nil_append, List.cons_append, inK, tdiv_nn, tmod_nn, Int.toNat_natCast]; omega) | (simp [AllP, impG, inK, tdiv_nn, tmod_nn]; omega) | ((repeat (first | (focus (first | omega | (intro i hi; first | rfl | (cases Nat.lt_one_iff.1 hi; rfl)) | (simp <;> omega))) | refine ⟨?_, ?_⟩)); done) | (simp only [AllP, impG, inK]; grind)))
  ((refine XL.callL hE rfl rfl rfl rfl trivial rfl (smallK_ok k l) ?_ rfl ?_); focus (repeat' (first | exact rfl | exact AvIs.refl _ | exact trivial | (intro i hi; rfl) | exact fun _ _ => ⟨rfl, AvIs.refl _⟩ | (intro i hi; rcases i with _ | _ | _ | _ | _ | _ | _ | i <;> first | rfl | exact absurd hi (by simp; done) | (simp at hi; omega)) | refine ⟨?_, ?_⟩)))
  ((refine XL.go hT rfl rfl rfl rfl ?_ ?_); focus (first | exact trivial | (simp [AllP, impG]; done) | (simp only [AllP, List.append, List.nil_append, List.cons_append, inK, tdiv_nn, tmod_nn, Int.toNat_natCast]; omega) | (simp [AllP, impG, inK, tdiv_nn, tmod_nn]; omega) | ((repeat (first | (focus (first | omega | (intro i hi; first | rfl | (cases Nat.lt_one_iff.1 hi; rfl)) | (simp <;> omega))) | refine ⟨?_, ?_⟩)); done) | (simp only [AllP, impG, inK]; grind))); refine XL.fin ?_; (repeat (first | refine XK.norm rfl rfl ?_ | ((first | refine XK.rgn hT rfl rfl rfl ?_ ?_ | refine XK.rgnD hT hm rfl rfl rfl (by kernel_rfl) ?_ ?_); focus (first | exact trivial | (simp [AllP, impG]; done) | (simp only [AllP, List.append, List.nil_append, List.cons_append, inK, tdiv_nn, tmod_nn, Int.toNat_natCast]; omega) | (simp [AllP, impG, inK, tdiv_nn, tmod_nn]; omega) | ((repeat (first | (focus (first | omega | (intro i hi; first | rfl | (cases Nat.lt_one_iff.1 hi; rfl)) | (simp <;> omega))) | refine ⟨?_, ?_⟩)); done) | (simp only [AllP, impG, inK]; grind)))))
  (repeat (first | refine XK.norm rfl rfl ?_ | ((first | refine XK.rgn hT rfl rfl rfl ?_ ?_ | refine XK.rgnD hT hm rfl rfl rfl (by kernel_rfl) ?_ ?_); focus (first | exact trivial | (simp [AllP, impG]; done) | (simp only [AllP, List.append, List.nil_append, List.cons_append, inK, tdiv_nn, tmod_nn, Int.toNat_natCast]; omega) | (simp [AllP, impG, inK, tdiv_nn, tmod_nn]; omega) | ((repeat (first | (focus (first | omega | (intro i hi; first | rfl | (cases Nat.lt_one_iff.1 hi; rfl)) | (simp <;> omega))) | refine ⟨?_, ?_⟩)); done) | (simp only [AllP, impG, inK]; grind))))); refine XK.cond rfl (fun hs => ?_) (fun hs => ?_)
  · (repeat (first | refine XK.norm rfl rfl ?_ | ((first | refine XK.rgn hT rfl rfl rfl ?_ ?_ | refine XK.rgnD hT hm rfl rfl rfl (by kernel_rfl) ?_ ?_); focus (first | exact trivial | (simp [AllP, impG]; done) | (simp only [AllP, List.append, List.nil_append, List.cons_append, inK, tdiv_nn, tmod_nn, Int.toNat_natCast]; omega) | (simp [AllP, impG, inK, tdiv_nn, tmod_nn]; omega) | ((repeat (first | (focus (first | omega | (intro i hi; first | rfl | (cases Nat.lt_one_iff.1 hi; rfl)) | (simp <;> omega))) | refine ⟨?_, ?_⟩)); done) | (simp only [AllP, impG, inK]; grind)))))
    (first | refine XK.out rfl rfl rfl ?_ | refine XK.outN rfl rfl rfl ?_)
    rfl
  · have hlen := (small_len hs).1
    (repeat (first | refine XK.norm rfl rfl ?_ | ((first | refine XK.rgn hT rfl rfl rfl ?_ ?_ | refine XK.rgnD hT hm rfl rfl rfl (by kernel_rfl) ?_ ?_); focus (first | exact trivial | (simp [AllP, impG]; done) | (simp only [AllP, List.append, List.nil_append, List.cons_append, inK, tdiv_nn, tmod_nn, Int.toNat_natCast]; omega) | (simp [AllP, impG, inK, tdiv_nn, tmod_nn]; omega) | ((repeat (first | (focus (first | omega | (intro i hi; first | rfl | (cases Nat.lt_one_iff.1 hi; rfl)) | (simp <;> omega))) | refine ⟨?_, ?_⟩)); done) | (simp only [AllP, impG, inK]; grind))))); refine XK.region ?_; ((refine XL.go hT rfl rfl rfl rfl ?_ ?_); focus (first | exact trivial | (simp [AllP, impG]; done) | (simp only [AllP, List.append, List.nil_append, List.cons_append, inK, tdiv_nn, tmod_nn, Int.toNat_natCast]; omega) | (simp [AllP, impG, inK, tdiv_nn, tmod_nn]; omega) | ((repeat (first | (focus (first | omega | (intro i hi; first | rfl | (cases Nat.lt_one_iff.1 hi; rfl)) | (simp <;> omega))) | refine ⟨?_, ?_⟩)); done) | (simp only [AllP, impG, inK]; grind)))
    ((refine XL.callK hE rfl rfl rfl rfl trivial rfl rfl (outcomes_ok k hk l) ?_ ?_); focus (repeat' (first | exact rfl | exact AvIs.refl _ | exact trivial | (intro i hi; rfl) | exact fun _ _ => ⟨rfl, AvIs.refl _⟩ | (intro i hi; rcases i with _ | _ | _ | _ | _ | _ | _ | i <;> first | rfl | exact absurd hi (by simp; done) | (simp at hi; omega)) | refine ⟨?_, ?_⟩)))
    ((refine XL.go hT rfl rfl rfl rfl ?_ ?_); focus (first | exact trivial | (simp [AllP, impG]; done) | (simp only [AllP, List.append, List.nil_append, List.cons_append, inK, tdiv_nn, tmod_nn, Int.toNat_natCast]; omega) | (simp [AllP, impG, inK, tdiv_nn, tmod_nn]; omega) | ((repeat (first | (focus (first | omega | (intro i hi; first | rfl | (cases Nat.lt_one_iff.1 hi; rfl)) | (simp <;> omega))) | refine ⟨?_, ?_⟩)); done) | (simp only [AllP, impG, inK]; grind))); refine XL.fin ?_; (repeat (first | refine XK.norm rfl rfl ?_ | ((first | refine XK.rgn hT rfl rfl rfl ?_ ?_ | refine XK.rgnD hT hm rfl rfl rfl (by kernel_rfl) ?_ ?_); focus (first | exact trivial | (simp [AllP, impG]; done) | (simp only [AllP, List.append, List.nil_append, List.cons_append, inK, tdiv_nn, tmod_nn, Int.toNat_natCast]; omega) | (simp [AllP, impG, inK, tdiv_nn, tmod_nn]; omega) | ((repeat (first | (focus (first | omega | (intro i hi; first | rfl | (cases Nat.lt_one_iff.1 hi; rfl)) | (simp <;> omega))) | refine ⟨?_, ?_⟩)); done) | (simp only [AllP, impG, inK]; grind)))))
    (repeat (first | refine XK.norm rfl rfl ?_ | ((first | refine XK.rgn hT rfl rfl rfl ?_ ?_ | refine XK.rgnD hT hm rfl rfl rfl (by kernel_rfl) ?_ ?_); focus (first | exact trivial | (simp [AllP, impG]; done) | (simp only [AllP, List.append, List.nil_append, List.cons_append, inK, tdiv_nn, tmod_nn, Int.toNat_natCast]; omega) | (simp [AllP, impG, inK, tdiv_nn, tmod_nn]; omega) | ((repeat (first | (focus (first | omega | (intro i hi; first | rfl | (cases Nat.lt_one_iff.1 hi; rfl)) | (simp <;> omega))) | refine ⟨?_, ?_⟩)); done) | (simp only [AllP, impG, inK]; grind))))); refine XK.cond rfl (fun h1 => ?_) (fun h1 => ?_)
    · (repeat (first | refine XK.norm rfl rfl ?_ | ((first | refine XK.rgn hT rfl rfl rfl ?_ ?_ | refine XK.rgnD hT hm rfl rfl rfl (by kernel_rfl) ?_ ?_); focus (first | exact trivial | (simp [AllP, impG]; done) | (simp only [AllP, List.append, List.nil_append, List.cons_append, inK, tdiv_nn, tmod_nn, Int.toNat_natCast]; omega) | (simp [AllP, impG, inK, tdiv_nn, tmod_nn]; omega) | ((repeat (first | (focus (first | omega | (intro i hi; first | rfl | (cases Nat.lt_one_iff.1 hi; rfl)) | (simp <;> omega))) | refine ⟨?_, ?_⟩)); done) | (simp only [AllP, impG, inK]; grind)))))
      (first | refine XK.out rfl rfl rfl ?_ | refine XK.outN rfl rfl rfl ?_)
      rfl
    · have h1 : checkR k l = 0 := by simpa using h1
      obtain ⟨h2, h3, h4, -⟩ := checkR_ok hk h1
      have hf := h2.facts
      have hnc := hf.nc
      have hon : outsN k l = k.clauses.length := by rw [outsN, if_pos h1]
      rw [hon]
      (repeat (first | refine XK.norm rfl rfl ?_ | ((first | refine XK.rgn hT rfl rfl rfl ?_ ?_ | refine XK.rgnD hT hm rfl rfl rfl (by kernel_rfl) ?_ ?_); focus (first | exact trivial | (simp [AllP, impG]; done) | (simp only [AllP, List.append, List.nil_append, List.cons_append, inK, tdiv_nn, tmod_nn, Int.toNat_natCast]; omega) | (simp [AllP, impG, inK, tdiv_nn, tmod_nn]; omega) | ((repeat (first | (focus (first | omega | (intro i hi; first | rfl | (cases Nat.lt_one_iff.1 hi; rfl)) | (simp <;> omega))) | refine ⟨?_, ?_⟩)); done) | (simp only [AllP, impG, inK]; grind))))); refine XK.cond rfl (fun h5 => ?_) (fun h5 => ?_)
      · simp at h5
      · (repeat (first | refine XK.norm rfl rfl ?_ | ((first | refine XK.rgn hT rfl rfl rfl ?_ ?_ | refine XK.rgnD hT hm rfl rfl rfl (by kernel_rfl) ?_ ?_); focus (first | exact trivial | (simp [AllP, impG]; done) | (simp only [AllP, List.append, List.nil_append, List.cons_append, inK, tdiv_nn, tmod_nn, Int.toNat_natCast]; omega) | (simp [AllP, impG, inK, tdiv_nn, tmod_nn]; omega) | ((repeat (first | (focus (first | omega | (intro i hi; first | rfl | (cases Nat.lt_one_iff.1 hi; rfl)) | (simp <;> omega))) | refine ⟨?_, ?_⟩)); done) | (simp only [AllP, impG, inK]; grind)))))
        refine XK.loop (ι := Nat) (fun i => ST.of [(1, intsV l), (2, .ptr 2 0), (5, .c (.bool true)), (6, ocsV k.clauses.length (followR k l l.length).out), (8, .c (.int .i64 i))] [(2, .cells 27 (kC k))] 2000 170 (fun _ => false))
          (fun i => i ≤ k.clauses.length) (fun i => k.clauses.length - i) 0 (Nat.zero_le _)
          (Weak.of hN rfl rfl rfl (by (repeat' (first | exact rfl | exact AvIs.refl _ | exact trivial | exact fun _ _ => rfl | exact fun _ _ => ⟨rfl, AvIs.refl _⟩ | refine ⟨?_, ?_⟩))) (by (repeat' (first | exact rfl | exact AvIs.refl _ | exact trivial | exact fun _ _ => rfl | exact fun _ _ => ⟨rfl, AvIs.refl _⟩ | refine ⟨?_, ?_⟩)))) fun i hi => ?_
        (repeat (first | refine XK.norm rfl rfl ?_ | ((first | refine XK.rgn hT rfl rfl rfl ?_ ?_ | refine XK.rgnD hT hm rfl rfl rfl (by kernel_rfl) ?_ ?_); focus (first | exact trivial | (simp [AllP, impG]; done) | (simp only [AllP, List.append, List.nil_append, List.cons_append, inK, tdiv_nn, tmod_nn, Int.toNat_natCast]; omega) | (simp [AllP, impG, inK, tdiv_nn, tmod_nn]; omega) | ((repeat (first | (focus (first | omega | (intro i hi; first | rfl | (cases Nat.lt_one_iff.1 hi; rfl)) | (simp <;> omega))) | refine ⟨?_, ?_⟩)); done) | (simp only [AllP, impG, inK]; grind))))); refine XK.cond rfl (fun hlt => ?_) (fun hlt => ?_) <;> (try simp at hlt)
        · have hc := clause_inv hf h3 hlt l.length (Nat.le_refl _) (by omega)
          have hx := hf.clOk hlt
          have hxw := hf.clW' hlt
          have hgb := (grace_bd (hf.clB hlt).2.2.1).2
          have hab := (hf.clB hlt).2.1
          have fc : k.clauses.getD (i : Int).toNat default = clAt k i := rfl
          have fo : (followR k l l.length).out (i : Int).toNat = (followR k l l.length).out i := rfl
          have hb := days_a hx hc
          clear hc
          (repeat (first | refine XK.norm rfl rfl ?_ | ((first | refine XK.rgn hT rfl rfl rfl ?_ ?_ | refine XK.rgnD hT hm rfl rfl rfl (by kernel_rfl) ?_ ?_); focus (first | exact trivial | (simp [AllP, impG]; done) | (simp only [AllP, List.append, List.nil_append, List.cons_append, inK, tdiv_nn, tmod_nn, Int.toNat_natCast]; omega) | (simp [AllP, impG, inK, tdiv_nn, tmod_nn]; omega) | ((repeat (first | (focus (first | omega | (intro i hi; first | rfl | (cases Nat.lt_one_iff.1 hi; rfl)) | (simp <;> omega))) | refine ⟨?_, ?_⟩)); done) | (simp only [AllP, impG, inK]; grind)))))
          rw [fc, fo]
          generalize clAt k i = x at *
          generalize (followR k l l.length).out i = o at *
          (repeat (first | refine XK.norm rfl rfl ?_ | ((first | refine XK.rgn hT rfl rfl rfl ?_ ?_ | refine XK.rgnD hT hm rfl rfl rfl (by kernel_rfl) ?_ ?_); focus (first | exact trivial | (simp [AllP, impG]; done) | (simp only [AllP, List.append, List.nil_append, List.cons_append, inK, tdiv_nn, tmod_nn, Int.toNat_natCast]; omega) | (simp [AllP, impG, inK, tdiv_nn, tmod_nn]; omega) | ((repeat (first | (focus (first | omega | (intro i hi; first | rfl | (cases Nat.lt_one_iff.1 hi; rfl)) | (simp <;> omega))) | refine ⟨?_, ?_⟩)); done) | (simp only [AllP, impG, inK]; grind))))); refine XK.cond rfl (fun h6 => ?_) (fun h6 => ?_)
          · (repeat (first | refine XK.norm rfl rfl ?_ | ((first | refine XK.rgn hT rfl rfl rfl ?_ ?_ | refine XK.rgnD hT hm rfl rfl rfl (by kernel_rfl) ?_ ?_); focus (first | exact trivial | (simp [AllP, impG]; done) | (simp only [AllP, List.append, List.nil_append, List.cons_append, inK, tdiv_nn, tmod_nn, Int.toNat_natCast]; omega) | (simp [AllP, impG, inK, tdiv_nn, tmod_nn]; omega) | ((repeat (first | (focus (first | omega | (intro i hi; first | rfl | (cases Nat.lt_one_iff.1 hi; rfl)) | (simp <;> omega))) | refine ⟨?_, ?_⟩)); done) | (simp only [AllP, impG, inK]; grind)))))
            exact XK.inv ⟨i + 1, hlt, (Weak.of hN rfl rfl rfl (by (repeat' (first | exact rfl | exact AvIs.refl _ | exact trivial | exact fun _ _ => rfl | exact fun _ _ => ⟨rfl, AvIs.refl _⟩ | refine ⟨?_, ?_⟩))) (by (repeat' (first | exact rfl | exact AvIs.refl _ | exact trivial | exact fun _ _ => rfl | exact fun _ _ => ⟨rfl, AvIs.refl _⟩ | refine ⟨?_, ?_⟩)))), by omega⟩
          · have h6 : 0 ≤ o.from_ := by simpa using h6
            obtain ⟨f, t, hbf, hbt, hft, htn, hto, htp, hA, hB, hC⟩ := hb h6
            (repeat (first | refine XK.norm rfl rfl ?_ | ((first | refine XK.rgn hT rfl rfl rfl ?_ ?_ | refine XK.rgnD hT hm rfl rfl rfl (by kernel_rfl) ?_ ?_); focus (first | exact trivial | (simp [AllP, impG]; done) | (simp only [AllP, List.append, List.nil_append, List.cons_append, inK, tdiv_nn, tmod_nn, Int.toNat_natCast]; omega) | (simp [AllP, impG, inK, tdiv_nn, tmod_nn]; omega) | ((repeat (first | (focus (first | omega | (intro i hi; first | rfl | (cases Nat.lt_one_iff.1 hi; rfl)) | (simp <;> omega))) | refine ⟨?_, ?_⟩)); done) | (simp only [AllP, impG, inK]; grind))))); refine XK.join (ST.of [(1, intsV l), (2, .ptr 2 0), (5, .c (.bool true)), (6, ocsV k.clauses.length (followR k l l.length).out), (8, .c (.int .i64 i)), (9, .ptr 2179 0), (10, .ptr 2350 0), (11, .c (.int .i64 t))] [(2, .cells 27 (kC k)), (2179, .cells 46 (clC x)), (2350, .cells 36 (ocC o))] 4000 170 (fun _ => false)) rfl (fun h7 => ?_) (fun h7 => ?_) ?_
            · have h7 : o.to < 0 := by simpa using h7
              rw [if_pos h7] at hbt
              (repeat (first | refine XK.norm rfl rfl ?_ | ((first | refine XK.rgn hT rfl rfl rfl ?_ ?_ | refine XK.rgnD hT hm rfl rfl rfl (by kernel_rfl) ?_ ?_); focus (first | exact trivial | (simp [AllP, impG]; done) | (simp only [AllP, List.append, List.nil_append, List.cons_append, inK, tdiv_nn, tmod_nn, Int.toNat_natCast]; omega) | (simp [AllP, impG, inK, tdiv_nn, tmod_nn]; omega) | ((repeat (first | (focus (first | omega | (intro i hi; first | rfl | (cases Nat.lt_one_iff.1 hi; rfl)) | (simp <;> omega))) | refine ⟨?_, ?_⟩)); done) | (simp only [AllP, impG, inK]; grind)))))
              exact XK.inv (Weak.of hN rfl rfl rfl (by (repeat' (first | exact rfl | exact AvIs.refl _ | exact trivial | exact fun _ _ => rfl | exact fun _ _ => ⟨rfl, AvIs.refl _⟩ | exact cI (by omega) | refine ⟨?_, ?_⟩))) (by (repeat' (first | exact rfl | exact AvIs.refl _ | exact trivial | exact fun _ _ => rfl | exact fun _ _ => ⟨rfl, AvIs.refl _⟩ | refine ⟨?_, ?_⟩))))
            · have h7 : ¬ o.to < 0 := by simpa using h7
              rw [if_neg h7] at hbt
              (repeat (first | refine XK.norm rfl rfl ?_ | ((first | refine XK.rgn hT rfl rfl rfl ?_ ?_ | refine XK.rgnD hT hm rfl rfl rfl (by kernel_rfl) ?_ ?_); focus (first | exact trivial | (simp [AllP, impG]; done) | (simp only [AllP, List.append, List.nil_append, List.cons_append, inK, tdiv_nn, tmod_nn, Int.toNat_natCast]; omega) | (simp [AllP, impG, inK, tdiv_nn, tmod_nn]; omega) | ((repeat (first | (focus (first | omega | (intro i hi; first | rfl | (cases Nat.lt_one_iff.1 hi; rfl)) | (simp <;> omega))) | refine ⟨?_, ?_⟩)); done) | (simp only [AllP, impG, inK]; grind)))))
              exact XK.inv (Weak.of hN rfl rfl rfl (by (repeat' (first | exact rfl | exact AvIs.refl _ | exact trivial | exact fun _ _ => rfl | exact fun _ _ => ⟨rfl, AvIs.refl _⟩ | exact cI (by omega) | refine ⟨?_, ?_⟩))) (by (repeat' (first | exact rfl | exact AvIs.refl _ | exact trivial | exact fun _ _ => rfl | exact fun _ _ => ⟨rfl, AvIs.refl _⟩ | refine ⟨?_, ?_⟩))))
            have htb : o.to < 0 ∧ t = l.length ∨ 0 ≤ o.to ∧ o.to = t ∧ 0 < t := by
              split at hbt
              · exact .inl ⟨by assumption, by omega⟩
              · exact .inr ⟨by omega, hbt, by omega⟩
            clear hbt
            (repeat (first | refine XK.norm rfl rfl ?_ | ((first | refine XK.rgn hT rfl rfl rfl ?_ ?_ | refine XK.rgnD hT hm rfl rfl rfl (by kernel_rfl) ?_ ?_); focus (first | exact trivial | (simp [AllP, impG]; done) | (simp only [AllP, List.append, List.nil_append, List.cons_append, inK, tdiv_nn, tmod_nn, Int.toNat_natCast]; omega) | (simp [AllP, impG, inK, tdiv_nn, tmod_nn]; omega) | ((repeat (first | (focus (first | omega | (intro i hi; first | rfl | (cases Nat.lt_one_iff.1 hi; rfl)) | (simp <;> omega))) | refine ⟨?_, ?_⟩)); done) | (simp only [AllP, impG, inK]; grind))))); refine XK.cond rfl (fun h8 => ?_) (fun h8 => ?_)
            · exfalso
              simp only [Bool.or_eq_true, decide_eq_true_eq, beq_iff_eq] at h8
              omega
            · (repeat (first | refine XK.norm rfl rfl ?_ | ((first | refine XK.rgn hT rfl rfl rfl ?_ ?_ | refine XK.rgnD hT hm rfl rfl rfl (by kernel_rfl) ?_ ?_); focus (first | exact trivial | (simp [AllP, impG]; done) | (simp only [AllP, List.append, List.nil_append, List.cons_append, inK, tdiv_nn, tmod_nn, Int.toNat_natCast]; omega) | (simp [AllP, impG, inK, tdiv_nn, tmod_nn]; omega) | ((repeat (first | (focus (first | omega | (intro i hi; first | rfl | (cases Nat.lt_one_iff.1 hi; rfl)) | (simp <;> omega))) | refine ⟨?_, ?_⟩)); done) | (simp only [AllP, impG, inK]; grind)))))
              rw [hbf]
              refine XK.loop (ι := Nat) (fun j => ST.of [(1, intsV l), (2, .ptr 2 0), (5, .c (.bool true)), (6, ocsV k.clauses.length (followR k l l.length).out), (8, .c (.int .i64 i)), (9, .ptr 2179 0), (10, .ptr 2350 0), (11, .c (.int .i64 t)), (12, .c (.int .i64 (daysTo l j - daysTo l f))), (13, .c (.int .i64 j))] [(2, .cells 27 (kC k)), (2179, .cells 46 (clC x)), (2350, .cells 36 (ocC o))] 5000 170 (fun _ => false))
                (fun j => f ≤ j ∧ j ≤ t) (fun j => t - j) f ⟨Nat.le_refl _, hft⟩
                (Weak.of hN rfl rfl rfl (by (repeat' (first | exact rfl | exact AvIs.refl _ | exact trivial | exact fun _ _ => rfl | exact fun _ _ => ⟨rfl, AvIs.refl _⟩ | exact cI (by omega) | refine ⟨?_, ?_⟩))) (by (repeat' (first | exact rfl | exact AvIs.refl _ | exact trivial | exact fun _ _ => rfl | exact fun _ _ => ⟨rfl, AvIs.refl _⟩ | refine ⟨?_, ?_⟩)))) fun j hj => ?_
              have hdl := daysTo_le l j
              have hdf := daysTo_le l f
              (repeat (first | refine XK.norm rfl rfl ?_ | ((first | refine XK.rgn hT rfl rfl rfl ?_ ?_ | refine XK.rgnD hT hm rfl rfl rfl (by kernel_rfl) ?_ ?_); focus (first | exact trivial | (simp [AllP, impG]; done) | (simp only [AllP, List.append, List.nil_append, List.cons_append, inK, tdiv_nn, tmod_nn, Int.toNat_natCast]; omega) | (simp [AllP, impG, inK, tdiv_nn, tmod_nn]; omega) | ((repeat (first | (focus (first | omega | (intro i hi; first | rfl | (cases Nat.lt_one_iff.1 hi; rfl)) | (simp <;> omega))) | refine ⟨?_, ?_⟩)); done) | (simp only [AllP, impG, inK]; grind))))); refine XK.cond rfl (fun hlt3 => ?_) (fun hlt3 => ?_) <;> (try simp at hlt3)
              · have hdj : daysTo l (j + 1) = if l.getD j default = -1 then daysTo l j + 1 else daysTo l j := rfl
                have fl : l.getD (j : Int).toNat default = l.getD j default := rfl
                (repeat (first | refine XK.norm rfl rfl ?_ | ((first | refine XK.rgn hT rfl rfl rfl ?_ ?_ | refine XK.rgnD hT hm rfl rfl rfl (by kernel_rfl) ?_ ?_); focus (first | exact trivial | (simp [AllP, impG]; done) | (simp only [AllP, List.append, List.nil_append, List.cons_append, inK, tdiv_nn, tmod_nn, Int.toNat_natCast]; omega) | (simp [AllP, impG, inK, tdiv_nn, tmod_nn]; omega) | ((repeat (first | (focus (first | omega | (intro i hi; first | rfl | (cases Nat.lt_one_iff.1 hi; rfl)) | (simp <;> omega))) | refine ⟨?_, ?_⟩)); done) | (simp only [AllP, impG, inK]; grind)))))
                rw [fl]
                (repeat (first | refine XK.norm rfl rfl ?_ | ((first | refine XK.rgn hT rfl rfl rfl ?_ ?_ | refine XK.rgnD hT hm rfl rfl rfl (by kernel_rfl) ?_ ?_); focus (first | exact trivial | (simp [AllP, impG]; done) | (simp only [AllP, List.append, List.nil_append, List.cons_append, inK, tdiv_nn, tmod_nn, Int.toNat_natCast]; omega) | (simp [AllP, impG, inK, tdiv_nn, tmod_nn]; omega) | ((repeat (first | (focus (first | omega | (intro i hi; first | rfl | (cases Nat.lt_one_iff.1 hi; rfl)) | (simp <;> omega))) | refine ⟨?_, ?_⟩)); done) | (simp only [AllP, impG, inK]; grind))))); refine XK.cond rfl (fun h9 => ?_) (fun h9 => ?_)
                · have h9 : l.getD j default = -1 := by simpa using h9
                  rw [if_pos h9] at hdj
                  (repeat (first | refine XK.norm rfl rfl ?_ | ((first | refine XK.rgn hT rfl rfl rfl ?_ ?_ | refine XK.rgnD hT hm rfl rfl rfl (by kernel_rfl) ?_ ?_); focus (first | exact trivial | (simp [AllP, impG]; done) | (simp only [AllP, List.append, List.nil_append, List.cons_append, inK, tdiv_nn, tmod_nn, Int.toNat_natCast]; omega) | (simp [AllP, impG, inK, tdiv_nn, tmod_nn]; omega) | ((repeat (first | (focus (first | omega | (intro i hi; first | rfl | (cases Nat.lt_one_iff.1 hi; rfl)) | (simp <;> omega))) | refine ⟨?_, ?_⟩)); done) | (simp only [AllP, impG, inK]; grind)))))
                  exact XK.inv ⟨j + 1, ⟨by omega, by omega⟩, (Weak.of hN rfl rfl rfl (by (repeat' (first | exact rfl | exact AvIs.refl _ | exact trivial | exact fun _ _ => rfl | exact fun _ _ => ⟨rfl, AvIs.refl _⟩ | exact cI (by omega) | refine ⟨?_, ?_⟩))) (by (repeat' (first | exact rfl | exact AvIs.refl _ | exact trivial | exact fun _ _ => rfl | exact fun _ _ => ⟨rfl, AvIs.refl _⟩ | refine ⟨?_, ?_⟩)))), by omega⟩
                · have h9 : l.getD j default ≠ -1 := by simpa using h9
                  rw [if_neg h9] at hdj
                  (repeat (first | refine XK.norm rfl rfl ?_ | ((first | refine XK.rgn hT rfl rfl rfl ?_ ?_ | refine XK.rgnD hT hm rfl rfl rfl (by kernel_rfl) ?_ ?_); focus (first | exact trivial | (simp [AllP, impG]; done) | (simp only [AllP, List.append, List.nil_append, List.cons_append, inK, tdiv_nn, tmod_nn, Int.toNat_natCast]; omega) | (simp [AllP, impG, inK, tdiv_nn, tmod_nn]; omega) | ((repeat (first | (focus (first | omega | (intro i hi; first | rfl | (cases Nat.lt_one_iff.1 hi; rfl)) | (simp <;> omega))) | refine ⟨?_, ?_⟩)); done) | (simp only [AllP, impG, inK]; grind)))))
                  exact XK.inv ⟨j + 1, ⟨by omega, by omega⟩, (Weak.of hN rfl rfl rfl (by (repeat' (first | exact rfl | exact AvIs.refl _ | exact trivial | exact fun _ _ => rfl | exact fun _ _ => ⟨rfl, AvIs.refl _⟩ | exact cI (by omega) | refine ⟨?_, ?_⟩))) (by (repeat' (first | exact rfl | exact AvIs.refl _ | exact trivial | exact fun _ _ => rfl | exact fun _ _ => ⟨rfl, AvIs.refl _⟩ | refine ⟨?_, ?_⟩)))), by omega⟩
              · have hjt : j = t := by omega
                subst hjt
                generalize daysTo l j - daysTo l f = d at *
                have hgk := hx.graceK
                (repeat (first | refine XK.norm rfl rfl ?_ | ((first | refine XK.rgn hT rfl rfl rfl ?_ ?_ | refine XK.rgnD hT hm rfl rfl rfl (by kernel_rfl) ?_ ?_); focus (first | exact trivial | (simp [AllP, impG]; done) | (simp only [AllP, List.append, List.nil_append, List.cons_append, inK, tdiv_nn, tmod_nn, Int.toNat_natCast]; omega) | (simp [AllP, impG, inK, tdiv_nn, tmod_nn]; omega) | ((repeat (first | (focus (first | omega | (intro i hi; first | rfl | (cases Nat.lt_one_iff.1 hi; rfl)) | (simp <;> omega))) | refine ⟨?_, ?_⟩)); done) | (simp only [AllP, impG, inK]; grind))))); refine XK.join (ST.of [(1, intsV l), (2, .ptr 2 0), (5, .c (.bool true)), (6, ocsV k.clauses.length (followR k l l.length).out), (8, .c (.int .i64 i)), (9, .ptr 2179 0), (10, .ptr 2350 0), (11, .c (.int .i64 j)), (12, .c (.int .i64 d)), (14, .c (.int .i64 (x.after + x.grace)))] [(2, .cells 27 (kC k)), (2179, .cells 46 (clC x)), (2350, .cells 36 (ocC o))] 6000 170 (fun _ => false)) rfl (fun h9 => ?_) (fun h9 => ?_) ?_
                · have h9 : x.kind = 1 := by simpa using h9
                  have hg0 := hx.grace
                  (repeat (first | refine XK.norm rfl rfl ?_ | ((first | refine XK.rgn hT rfl rfl rfl ?_ ?_ | refine XK.rgnD hT hm rfl rfl rfl (by kernel_rfl) ?_ ?_); focus (first | exact trivial | (simp [AllP, impG]; done) | (simp only [AllP, List.append, List.nil_append, List.cons_append, inK, tdiv_nn, tmod_nn, Int.toNat_natCast]; omega) | (simp [AllP, impG, inK, tdiv_nn, tmod_nn]; omega) | ((repeat (first | (focus (first | omega | (intro i hi; first | rfl | (cases Nat.lt_one_iff.1 hi; rfl)) | (simp <;> omega))) | refine ⟨?_, ?_⟩)); done) | (simp only [AllP, impG, inK]; grind)))))
                  exact XK.inv (Weak.of hN rfl rfl rfl (by (repeat' (first | exact rfl | exact AvIs.refl _ | exact trivial | exact fun _ _ => rfl | exact fun _ _ => ⟨rfl, AvIs.refl _⟩ | exact cI (by omega) | refine ⟨?_, ?_⟩))) (by (repeat' (first | exact rfl | exact AvIs.refl _ | exact trivial | exact fun _ _ => rfl | exact fun _ _ => ⟨rfl, AvIs.refl _⟩ | refine ⟨?_, ?_⟩))))
                · have h9 : x.kind ≠ 1 := by simpa using h9
                  have := hgk h9
                  (repeat (first | refine XK.norm rfl rfl ?_ | ((first | refine XK.rgn hT rfl rfl rfl ?_ ?_ | refine XK.rgnD hT hm rfl rfl rfl (by kernel_rfl) ?_ ?_); focus (first | exact trivial | (simp [AllP, impG]; done) | (simp only [AllP, List.append, List.nil_append, List.cons_append, inK, tdiv_nn, tmod_nn, Int.toNat_natCast]; omega) | (simp [AllP, impG, inK, tdiv_nn, tmod_nn]; omega) | ((repeat (first | (focus (first | omega | (intro i hi; first | rfl | (cases Nat.lt_one_iff.1 hi; rfl)) | (simp <;> omega))) | refine ⟨?_, ?_⟩)); done) | (simp only [AllP, impG, inK]; grind)))))
                  exact XK.inv (Weak.of hN rfl rfl rfl (by (repeat' (first | exact rfl | exact AvIs.refl _ | exact trivial | exact fun _ _ => rfl | exact fun _ _ => ⟨rfl, AvIs.refl _⟩ | exact cI (by omega) | refine ⟨?_, ?_⟩))) (by (repeat' (first | exact rfl | exact AvIs.refl _ | exact trivial | exact fun _ _ => rfl | exact fun _ _ => ⟨rfl, AvIs.refl _⟩ | refine ⟨?_, ?_⟩))))
                have hpl : (decide (x.pause < 0) && (!x.business || (k.off.length : Int) == 0)) = true ↔ plainC k x := by
                  unfold plainC
                  cases x.business <;> simp
                have ej : ((j : Int) - 1).toNat = j - 1 := by omega
                have hfin : ¬ (o.status == 2 && !(x.kind == 1 && decide (0 < x.grace) && decide (x.after ≤ d))) = true := fun h => by
                  simp only [Bool.and_eq_true, beq_iff_eq, Bool.not_eq_true', Bool.and_eq_false_iff, decide_eq_false_iff_not] at h
                  have := hC h.1
                  simp [this] at h
                (repeat (first | refine XK.norm rfl rfl ?_ | ((first | refine XK.rgn hT rfl rfl rfl ?_ ?_ | refine XK.rgnD hT hm rfl rfl rfl (by kernel_rfl) ?_ ?_); focus (first | exact trivial | (simp [AllP, impG]; done) | (simp only [AllP, List.append, List.nil_append, List.cons_append, inK, tdiv_nn, tmod_nn, Int.toNat_natCast]; omega) | (simp [AllP, impG, inK, tdiv_nn, tmod_nn]; omega) | ((repeat (first | (focus (first | omega | (intro i hi; first | rfl | (cases Nat.lt_one_iff.1 hi; rfl)) | (simp <;> omega))) | refine ⟨?_, ?_⟩)); done) | (simp only [AllP, impG, inK]; grind))))); refine XK.cond rfl (fun h10 => ?_) (fun h10 => ?_)
                · rw [ej] at h10
                  have h10 := hA (by simpa using h10)
                  (repeat (first | refine XK.norm rfl rfl ?_ | ((first | refine XK.rgn hT rfl rfl rfl ?_ ?_ | refine XK.rgnD hT hm rfl rfl rfl (by kernel_rfl) ?_ ?_); focus (first | exact trivial | (simp [AllP, impG]; done) | (simp only [AllP, List.append, List.nil_append, List.cons_append, inK, tdiv_nn, tmod_nn, Int.toNat_natCast]; omega) | (simp [AllP, impG, inK, tdiv_nn, tmod_nn]; omega) | ((repeat (first | (focus (first | omega | (intro i hi; first | rfl | (cases Nat.lt_one_iff.1 hi; rfl)) | (simp <;> omega))) | refine ⟨?_, ?_⟩)); done) | (simp only [AllP, impG, inK]; grind))))); refine XK.cond rfl (fun h11 => ?_) (fun h11 => ?_)
                  · exfalso
                    rw [Bool.or_eq_true, Bool.and_eq_true, hpl, decide_eq_true_eq, bne_iff_ne] at h11
                    rcases h11 with h | ⟨h, h'⟩
                    · omega
                    · exact h' (h10.2 h)
                  · (repeat (first | refine XK.norm rfl rfl ?_ | ((first | refine XK.rgn hT rfl rfl rfl ?_ ?_ | refine XK.rgnD hT hm rfl rfl rfl (by kernel_rfl) ?_ ?_); focus (first | exact trivial | (simp [AllP, impG]; done) | (simp only [AllP, List.append, List.nil_append, List.cons_append, inK, tdiv_nn, tmod_nn, Int.toNat_natCast]; omega) | (simp [AllP, impG, inK, tdiv_nn, tmod_nn]; omega) | ((repeat (first | (focus (first | omega | (intro i hi; first | rfl | (cases Nat.lt_one_iff.1 hi; rfl)) | (simp <;> omega))) | refine ⟨?_, ?_⟩)); done) | (simp only [AllP, impG, inK]; grind))))); refine XK.cond rfl (fun h12 => ?_) (fun h12 => ?_)
                    · exact absurd h12 hfin
                    · (repeat (first | refine XK.norm rfl rfl ?_ | ((first | refine XK.rgn hT rfl rfl rfl ?_ ?_ | refine XK.rgnD hT hm rfl rfl rfl (by kernel_rfl) ?_ ?_); focus (first | exact trivial | (simp [AllP, impG]; done) | (simp only [AllP, List.append, List.nil_append, List.cons_append, inK, tdiv_nn, tmod_nn, Int.toNat_natCast]; omega) | (simp [AllP, impG, inK, tdiv_nn, tmod_nn]; omega) | ((repeat (first | (focus (first | omega | (intro i hi; first | rfl | (cases Nat.lt_one_iff.1 hi; rfl)) | (simp <;> omega))) | refine ⟨?_, ?_⟩)); done) | (simp only [AllP, impG, inK]; grind)))))
                      exact XK.inv ⟨i + 1, hlt, (Weak.of hN rfl rfl rfl (by (repeat' (first | exact rfl | exact AvIs.refl _ | exact trivial | exact fun _ _ => rfl | exact fun _ _ => ⟨rfl, AvIs.refl _⟩ | refine ⟨?_, ?_⟩))) (by (repeat' (first | exact rfl | exact AvIs.refl _ | exact trivial | exact fun _ _ => rfl | exact fun _ _ => ⟨rfl, AvIs.refl _⟩ | refine ⟨?_, ?_⟩)))), by omega⟩
                · rw [ej] at h10
                  have h10 := hB (by simpa using h10)
                  (repeat (first | refine XK.norm rfl rfl ?_ | ((first | refine XK.rgn hT rfl rfl rfl ?_ ?_ | refine XK.rgnD hT hm rfl rfl rfl (by kernel_rfl) ?_ ?_); focus (first | exact trivial | (simp [AllP, impG]; done) | (simp only [AllP, List.append, List.nil_append, List.cons_append, inK, tdiv_nn, tmod_nn, Int.toNat_natCast]; omega) | (simp [AllP, impG, inK, tdiv_nn, tmod_nn]; omega) | ((repeat (first | (focus (first | omega | (intro i hi; first | rfl | (cases Nat.lt_one_iff.1 hi; rfl)) | (simp <;> omega))) | refine ⟨?_, ?_⟩)); done) | (simp only [AllP, impG, inK]; grind))))); refine XK.cond rfl (fun h11 => ?_) (fun h11 => ?_)
                  · exfalso
                    rw [Bool.and_eq_true, hpl] at h11
                    have h13 := h10 h11.1
                    have h11 := h11.2
                    rw [Bool.or_eq_true, decide_eq_true_eq, Bool.and_eq_true, decide_eq_true_eq] at h11
                    rcases h11 with h | ⟨h, h'⟩
                    · omega
                    · have e : ((o.status == 2) == (x.kind == 1 && decide (0 < x.grace) && decide (x.after ≤ d))) = true := by
                        rw [beq_iff_eq, Bool.eq_iff_iff, beq_iff_eq, h13.2 h]
                        simp [and_assoc]
                      rw [e] at h'
                      cases h'
                  · (repeat (first | refine XK.norm rfl rfl ?_ | ((first | refine XK.rgn hT rfl rfl rfl ?_ ?_ | refine XK.rgnD hT hm rfl rfl rfl (by kernel_rfl) ?_ ?_); focus (first | exact trivial | (simp [AllP, impG]; done) | (simp only [AllP, List.append, List.nil_append, List.cons_append, inK, tdiv_nn, tmod_nn, Int.toNat_natCast]; omega) | (simp [AllP, impG, inK, tdiv_nn, tmod_nn]; omega) | ((repeat (first | (focus (first | omega | (intro i hi; first | rfl | (cases Nat.lt_one_iff.1 hi; rfl)) | (simp <;> omega))) | refine ⟨?_, ?_⟩)); done) | (simp only [AllP, impG, inK]; grind))))); refine XK.cond rfl (fun h12 => ?_) (fun h12 => ?_)
                    · exact absurd h12 hfin
                    · (repeat (first | refine XK.norm rfl rfl ?_ | ((first | refine XK.rgn hT rfl rfl rfl ?_ ?_ | refine XK.rgnD hT hm rfl rfl rfl (by kernel_rfl) ?_ ?_); focus (first | exact trivial | (simp [AllP, impG]; done) | (simp only [AllP, List.append, List.nil_append, List.cons_append, inK, tdiv_nn, tmod_nn, Int.toNat_natCast]; omega) | (simp [AllP, impG, inK, tdiv_nn, tmod_nn]; omega) | ((repeat (first | (focus (first | omega | (intro i hi; first | rfl | (cases Nat.lt_one_iff.1 hi; rfl)) | (simp <;> omega))) | refine ⟨?_, ?_⟩)); done) | (simp only [AllP, impG, inK]; grind)))))
                      exact XK.inv ⟨i + 1, hlt, (Weak.of hN rfl rfl rfl (by (repeat' (first | exact rfl | exact AvIs.refl _ | exact trivial | exact fun _ _ => rfl | exact fun _ _ => ⟨rfl, AvIs.refl _⟩ | refine ⟨?_, ?_⟩))) (by (repeat' (first | exact rfl | exact AvIs.refl _ | exact trivial | exact fun _ _ => rfl | exact fun _ _ => ⟨rfl, AvIs.refl _⟩ | refine ⟨?_, ?_⟩)))), by omega⟩
        · (repeat (first | refine XK.norm rfl rfl ?_ | ((first | refine XK.rgn hT rfl rfl rfl ?_ ?_ | refine XK.rgnD hT hm rfl rfl rfl (by kernel_rfl) ?_ ?_); focus (first | exact trivial | (simp [AllP, impG]; done) | (simp only [AllP, List.append, List.nil_append, List.cons_append, inK, tdiv_nn, tmod_nn, Int.toNat_natCast]; omega) | (simp [AllP, impG, inK, tdiv_nn, tmod_nn]; omega) | ((repeat (first | (focus (first | omega | (intro i hi; first | rfl | (cases Nat.lt_one_iff.1 hi; rfl)) | (simp <;> omega))) | refine ⟨?_, ?_⟩)); done) | (simp only [AllP, impG, inK]; grind)))))
          (first | refine XK.out rfl rfl rfl ?_ | refine XK.outN rfl rfl rfl ?_)
          rfl
end Go.Proofs.Ytmnnjllimphjhaa
