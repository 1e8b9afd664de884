/- The law TraceProgress: the walk. -/
import Derived.Test.YtmnnjllimphjhaaU3
namespace Go.Proofs.Ytmnnjllimphjhaa
open Go.Eng
set_option maxRecDepth 10000
set_option linter.unusedSimpArgs false
set_option linter.unusedVariables false
theorem prog_facts {k : K} {x : Cl} {l : List Int} {n m : Nat} {a b : Oc} {c d : Int × Bool} (hx : ClOk k x) (ha : CInv k x l n a c) (hb : CInv k x l m b d) (hnm : n ≤ m) (h : Later n m a b) :
    (a.status = 3 ∨ a.status = 4 ∨ a.status = 5 ↔ 0 ≤ a.to) ∧ (0 ≤ a.to → a = b) ∧ a.to ≤ n ∧ a.from_ ≤ n ∧
    (a.to < 0 → ¬ (0 ≤ b.to ∧ b.to ≤ n) ∧ ¬ (a.status = 0 ∧ 0 ≤ b.from_ ∧ b.from_ ≤ n) ∧ (a.status ≠ 0 → b.from_ = a.from_ ∧ b.status ≠ 0 ∧ ¬ (a.status = 2 ∧ b.status = 1) ∧ a.got ≤ b.got)) := by
  have hk := hx.kind
  refine ⟨?_, fun h1 => (h.ended h1).symm, ?_, ?_, fun h1 => ⟨?_, ?_, fun h2 => ?_⟩⟩
  · cases ha with
    | waived hw ho => subst ho; simp
    | idle hw ho => subst ho; simp
    | run f hw hf hfn ht hst => omega
    | fin f t hw hf ht hft htn hd hp he => rcases he with ⟨_, h4, _⟩ | ⟨_, h4, _⟩ <;> (repeat' split at h4) <;> omega
  · cases ha with
    | waived hw ho => subst ho; simp
    | idle hw ho => subst ho; simp only; omega
    | run f hw hf hfn ht hst => omega
    | fin f t hw hf ht hft htn hd hp he => omega
  · cases ha with
    | waived hw ho => subst ho; simp only; omega
    | idle hw ho => subst ho; simp only; omega
    | run f hw hf hfn ht hst => omega
    | fin f t hw hf ht hft htn hd hp he => omega
  · have := h.to h1; omega
  · rintro ⟨h2, h3, h4⟩
    have h5 : a.from_ < 0 := by
      cases ha with
      | waived hw ho => subst ho; simp at h1
      | idle hw ho => subst ho; simp
      | run f hw hf hfn ht hst => omega
      | fin f t hw hf ht => omega
    have := h.start h5; omega
  · have h5 : 0 ≤ a.from_ := by
      cases ha with
      | waived hw ho => subst ho; simp at h1
      | idle hw ho => subst ho; simp at h2
      | run f hw hf hfn ht hst => omega
      | fin f t hw hf ht => omega
    have h6 := h.from_ h5
    refine ⟨h6, ?_, fun h7 => h.late h5 h7.1 h7.2, h.got⟩
    cases hb with
    | waived hw ho => subst ho; simp
    | idle hw ho => subst ho; simp at h6; omega
    | run f hw hf hfn ht hst => omega
    | fin f t hw hf ht hft htn hd hp he => rcases he with ⟨_, h4, _⟩ | ⟨_, h4, _⟩ <;> (repeat' split at h4) <;> omega
theorem law4t (k : K) (hk : kW k) (l : List Int) (raw : Int) (hr : inK .u16 raw) : Does Try.prog 4 [kV k, intsV l, .c (.int .u16 raw)] (.c (.bool true)) := by
  refine Does.mk (fun _ => false) TT_ok Try.func4 rfl (by kernel_rfl) Try.ntmps4 rfl rfl fun E hT hE hN => ?_
  have hm : E.P.follows .mixedOrders = true := by rw [hE]; kernel_rfl
  obtain ⟨u, rfl⟩ := Int.eq_ofNat_of_zero_le hr.1
  have hu : u ≤ 65535 := by have := hr.2; omega
  (repeat (first | refine XK.norm rfl rfl ?_ | ((first | refine XK.rgn hT rfl rfl rfl ?_ ?_ | refine XK.rgnD hT hm rfl rfl rfl (by kernel_rfl) ?_ ?_); focus (first | exact trivial | (simp [AllP, impG]; done) | (simp only [AllP, List.append, List.nil_append, List.cons_append, inK, tdiv_nn, tmod_nn, Int.toNat_natCast]; omega) | (simp [AllP, impG, inK, tdiv_nn, tmod_nn]; omega) | ((repeat (first | (focus (first | omega | (intro i hi; first | rfl | (cases Nat.lt_one_iff.1 hi; rfl)) | (simp <;> omega))) | refine ⟨?_, ?_⟩)); done) | (simp only [AllP, impG, inK]; grind))))); refine XK.region ?_; ((refine XL.go hT rfl rfl rfl rfl ?_ ?_); focus (first | exact trivial | (simp [AllP, impG]; done) | (simp only [AllP, List.append, List.nil_append, List.cons_append, inK, tdiv_nn, tmod_nn, Int.toNat_natCast]; omega) | (simp [AllP, impG, inK, tdiv_nn, tmod_nn]; omega) | ((repeat (first | (focus (first | omega | (intro i hi; first | rfl | (cases Nat.lt_one_iff.1 hi; rfl)) | (simp <;> omega))) | refine ⟨?_, ?_⟩)); done) | (simp only [AllP, impG, inK]; grind)))
  ((refine XL.callL hE rfl rfl rfl rfl trivial rfl (head14_ok) ?_ rfl ?_); focus (repeat' (first | exact rfl | exact AvIs.refl _ | exact trivial | (intro i hi; rfl) | exact fun _ _ => ⟨rfl, AvIs.refl _⟩ | (intro i hi; rcases i with _ | _ | _ | _ | _ | _ | _ | i <;> first | rfl | exact absurd hi (by simp; done) | (simp at hi; omega)) | refine ⟨?_, ?_⟩)))
  ((refine XL.go hT rfl rfl rfl rfl ?_ ?_); focus (first | exact trivial | (simp [AllP, impG]; done) | (simp only [AllP, List.append, List.nil_append, List.cons_append, inK, tdiv_nn, tmod_nn, Int.toNat_natCast]; omega) | (simp [AllP, impG, inK, tdiv_nn, tmod_nn]; omega) | ((repeat (first | (focus (first | omega | (intro i hi; first | rfl | (cases Nat.lt_one_iff.1 hi; rfl)) | (simp <;> omega))) | refine ⟨?_, ?_⟩)); done) | (simp only [AllP, impG, inK]; grind))); refine XL.fin ?_; (repeat (first | refine XK.norm rfl rfl ?_ | ((first | refine XK.rgn hT rfl rfl rfl ?_ ?_ | refine XK.rgnD hT hm rfl rfl rfl (by kernel_rfl) ?_ ?_); focus (first | exact trivial | (simp [AllP, impG]; done) | (simp only [AllP, List.append, List.nil_append, List.cons_append, inK, tdiv_nn, tmod_nn, Int.toNat_natCast]; omega) | (simp [AllP, impG, inK, tdiv_nn, tmod_nn]; omega) | ((repeat (first | (focus (first | omega | (intro i hi; first | rfl | (cases Nat.lt_one_iff.1 hi; rfl)) | (simp <;> omega))) | refine ⟨?_, ?_⟩)); done) | (simp only [AllP, impG, inK]; grind)))))
  (repeat (first | refine XK.norm rfl rfl ?_ | ((first | refine XK.rgn hT rfl rfl rfl ?_ ?_ | refine XK.rgnD hT hm rfl rfl rfl (by kernel_rfl) ?_ ?_); focus (first | exact trivial | (simp [AllP, impG]; done) | (simp only [AllP, List.append, List.nil_append, List.cons_append, inK, tdiv_nn, tmod_nn, Int.toNat_natCast]; omega) | (simp [AllP, impG, inK, tdiv_nn, tmod_nn]; omega) | ((repeat (first | (focus (first | omega | (intro i hi; first | rfl | (cases Nat.lt_one_iff.1 hi; rfl)) | (simp <;> omega))) | refine ⟨?_, ?_⟩)); done) | (simp only [AllP, impG, inK]; grind))))); refine XK.region ?_; ((refine XL.go hT rfl rfl rfl rfl ?_ ?_); focus (first | exact trivial | (simp [AllP, impG]; done) | (simp only [AllP, List.append, List.nil_append, List.cons_append, inK, tdiv_nn, tmod_nn, Int.toNat_natCast]; omega) | (simp [AllP, impG, inK, tdiv_nn, tmod_nn]; omega) | ((repeat (first | (focus (first | omega | (intro i hi; first | rfl | (cases Nat.lt_one_iff.1 hi; rfl)) | (simp <;> omega))) | refine ⟨?_, ?_⟩)); done) | (simp only [AllP, impG, inK]; grind)))
  ((refine XL.callL hE rfl rfl rfl rfl trivial rfl (smallK_ok k l) ?_ rfl ?_); focus (repeat' (first | exact rfl | exact AvIs.refl _ | exact trivial | (intro i hi; rfl) | exact fun _ _ => ⟨rfl, AvIs.refl _⟩ | (intro i hi; rcases i with _ | _ | _ | _ | _ | _ | _ | i <;> first | rfl | exact absurd hi (by simp; done) | (simp at hi; omega)) | refine ⟨?_, ?_⟩)))
  ((refine XL.go hT rfl rfl rfl rfl ?_ ?_); focus (first | exact trivial | (simp [AllP, impG]; done) | (simp only [AllP, List.append, List.nil_append, List.cons_append, inK, tdiv_nn, tmod_nn, Int.toNat_natCast]; omega) | (simp [AllP, impG, inK, tdiv_nn, tmod_nn]; omega) | ((repeat (first | (focus (first | omega | (intro i hi; first | rfl | (cases Nat.lt_one_iff.1 hi; rfl)) | (simp <;> omega))) | refine ⟨?_, ?_⟩)); done) | (simp only [AllP, impG, inK]; grind))); refine XL.fin ?_; (repeat (first | refine XK.norm rfl rfl ?_ | ((first | refine XK.rgn hT rfl rfl rfl ?_ ?_ | refine XK.rgnD hT hm rfl rfl rfl (by kernel_rfl) ?_ ?_); focus (first | exact trivial | (simp [AllP, impG]; done) | (simp only [AllP, List.append, List.nil_append, List.cons_append, inK, tdiv_nn, tmod_nn, Int.toNat_natCast]; omega) | (simp [AllP, impG, inK, tdiv_nn, tmod_nn]; omega) | ((repeat (first | (focus (first | omega | (intro i hi; first | rfl | (cases Nat.lt_one_iff.1 hi; rfl)) | (simp <;> omega))) | refine ⟨?_, ?_⟩)); done) | (simp only [AllP, impG, inK]; grind)))))
  (repeat (first | refine XK.norm rfl rfl ?_ | ((first | refine XK.rgn hT rfl rfl rfl ?_ ?_ | refine XK.rgnD hT hm rfl rfl rfl (by kernel_rfl) ?_ ?_); focus (first | exact trivial | (simp [AllP, impG]; done) | (simp only [AllP, List.append, List.nil_append, List.cons_append, inK, tdiv_nn, tmod_nn, Int.toNat_natCast]; omega) | (simp [AllP, impG, inK, tdiv_nn, tmod_nn]; omega) | ((repeat (first | (focus (first | omega | (intro i hi; first | rfl | (cases Nat.lt_one_iff.1 hi; rfl)) | (simp <;> omega))) | refine ⟨?_, ?_⟩)); done) | (simp only [AllP, impG, inK]; grind))))); refine XK.cond rfl (fun hs => ?_) (fun hs => ?_)
  · (repeat (first | refine XK.norm rfl rfl ?_ | ((first | refine XK.rgn hT rfl rfl rfl ?_ ?_ | refine XK.rgnD hT hm rfl rfl rfl (by kernel_rfl) ?_ ?_); focus (first | exact trivial | (simp [AllP, impG]; done) | (simp only [AllP, List.append, List.nil_append, List.cons_append, inK, tdiv_nn, tmod_nn, Int.toNat_natCast]; omega) | (simp [AllP, impG, inK, tdiv_nn, tmod_nn]; omega) | ((repeat (first | (focus (first | omega | (intro i hi; first | rfl | (cases Nat.lt_one_iff.1 hi; rfl)) | (simp <;> omega))) | refine ⟨?_, ?_⟩)); done) | (simp only [AllP, impG, inK]; grind)))))
    (first | refine XK.out rfl rfl rfl ?_ | refine XK.outN rfl rfl rfl ?_)
    rfl
  · have hlen := (small_len hs).1
    (repeat (first | refine XK.norm rfl rfl ?_ | ((first | refine XK.rgn hT rfl rfl rfl ?_ ?_ | refine XK.rgnD hT hm rfl rfl rfl (by kernel_rfl) ?_ ?_); focus (first | exact trivial | (simp [AllP, impG]; done) | (simp only [AllP, List.append, List.nil_append, List.cons_append, inK, tdiv_nn, tmod_nn, Int.toNat_natCast]; omega) | (simp [AllP, impG, inK, tdiv_nn, tmod_nn]; omega) | ((repeat (first | (focus (first | omega | (intro i hi; first | rfl | (cases Nat.lt_one_iff.1 hi; rfl)) | (simp <;> omega))) | refine ⟨?_, ?_⟩)); done) | (simp only [AllP, impG, inK]; grind)))))
    rw [tmod_len]
    have hn : u % (l.length + 1) ≤ l.length := by have := Nat.mod_lt u (show 0 < l.length + 1 by omega); omega
    generalize u % (l.length + 1) = n at hn ⊢
    (repeat (first | refine XK.norm rfl rfl ?_ | ((first | refine XK.rgn hT rfl rfl rfl ?_ ?_ | refine XK.rgnD hT hm rfl rfl rfl (by kernel_rfl) ?_ ?_); focus (first | exact trivial | (simp [AllP, impG]; done) | (simp only [AllP, List.append, List.nil_append, List.cons_append, inK, tdiv_nn, tmod_nn, Int.toNat_natCast]; omega) | (simp [AllP, impG, inK, tdiv_nn, tmod_nn]; omega) | ((repeat (first | (focus (first | omega | (intro i hi; first | rfl | (cases Nat.lt_one_iff.1 hi; rfl)) | (simp <;> omega))) | refine ⟨?_, ?_⟩)); done) | (simp only [AllP, impG, inK]; grind))))); refine XK.region ?_; ((refine XL.go hT rfl rfl rfl rfl ?_ ?_); focus (first | exact trivial | (simp [AllP, impG]; done) | (simp only [AllP, List.append, List.nil_append, List.cons_append, inK, tdiv_nn, tmod_nn, Int.toNat_natCast]; omega) | (simp [AllP, impG, inK, tdiv_nn, tmod_nn]; omega) | ((repeat (first | (focus (first | omega | (intro i hi; first | rfl | (cases Nat.lt_one_iff.1 hi; rfl)) | (simp <;> omega))) | refine ⟨?_, ?_⟩)); done) | (simp only [AllP, impG, inK]; grind)))
    ((refine XL.callK hE rfl rfl rfl rfl trivial rfl rfl (outcomes_ok k hk l) ?_ ?_); focus (repeat' (first | exact rfl | exact AvIs.refl _ | exact trivial | (intro i hi; rfl) | exact fun _ _ => ⟨rfl, AvIs.refl _⟩ | (intro i hi; rcases i with _ | _ | _ | _ | _ | _ | _ | i <;> first | rfl | exact absurd hi (by simp; done) | (simp at hi; omega)) | refine ⟨?_, ?_⟩)))
    ((refine XL.go hT rfl rfl rfl rfl ?_ ?_); focus (first | exact trivial | (simp [AllP, impG]; done) | (simp only [AllP, List.append, List.nil_append, List.cons_append, inK, tdiv_nn, tmod_nn, Int.toNat_natCast]; omega) | (simp [AllP, impG, inK, tdiv_nn, tmod_nn]; omega) | ((repeat (first | (focus (first | omega | (intro i hi; first | rfl | (cases Nat.lt_one_iff.1 hi; rfl)) | (simp <;> omega))) | refine ⟨?_, ?_⟩)); done) | (simp only [AllP, impG, inK]; grind))); refine XL.fin ?_; (repeat (first | refine XK.norm rfl rfl ?_ | ((first | refine XK.rgn hT rfl rfl rfl ?_ ?_ | refine XK.rgnD hT hm rfl rfl rfl (by kernel_rfl) ?_ ?_); focus (first | exact trivial | (simp [AllP, impG]; done) | (simp only [AllP, List.append, List.nil_append, List.cons_append, inK, tdiv_nn, tmod_nn, Int.toNat_natCast]; omega) | (simp [AllP, impG, inK, tdiv_nn, tmod_nn]; omega) | ((repeat (first | (focus (first | omega | (intro i hi; first | rfl | (cases Nat.lt_one_iff.1 hi; rfl)) | (simp <;> omega))) | refine ⟨?_, ?_⟩)); done) | (simp only [AllP, impG, inK]; grind)))))
    (repeat (first | refine XK.norm rfl rfl ?_ | ((first | refine XK.rgn hT rfl rfl rfl ?_ ?_ | refine XK.rgnD hT hm rfl rfl rfl (by kernel_rfl) ?_ ?_); focus (first | exact trivial | (simp [AllP, impG]; done) | (simp only [AllP, List.append, List.nil_append, List.cons_append, inK, tdiv_nn, tmod_nn, Int.toNat_natCast]; omega) | (simp [AllP, impG, inK, tdiv_nn, tmod_nn]; omega) | ((repeat (first | (focus (first | omega | (intro i hi; first | rfl | (cases Nat.lt_one_iff.1 hi; rfl)) | (simp <;> omega))) | refine ⟨?_, ?_⟩)); done) | (simp only [AllP, impG, inK]; grind))))); refine XK.drawn hm ?_; ((refine XD.go hT rfl rfl rfl rfl ?_ ?_); focus (first | exact trivial | (simp [AllP, impG]; done) | (simp only [AllP, List.append, List.nil_append, List.cons_append, inK, tdiv_nn, tmod_nn, Int.toNat_natCast]; omega) | (simp [AllP, impG, inK, tdiv_nn, tmod_nn]; omega) | ((repeat (first | (focus (first | omega | (intro i hi; first | rfl | (cases Nat.lt_one_iff.1 hi; rfl)) | (simp <;> omega))) | refine ⟨?_, ?_⟩)); done) | (simp only [AllP, impG, inK]; grind)))
    refine XD.callK hE rfl rfl rfl rfl trivial rfl rfl (outcomes_ok k hk (l.take n)) ⟨rfl, intsV_take l n hn⟩ ?_
    ((refine XD.go hT rfl rfl rfl rfl ?_ ?_); focus (first | exact trivial | (simp [AllP, impG]; done) | (simp only [AllP, List.append, List.nil_append, List.cons_append, inK, tdiv_nn, tmod_nn, Int.toNat_natCast]; omega) | (simp [AllP, impG, inK, tdiv_nn, tmod_nn]; omega) | ((repeat (first | (focus (first | omega | (intro i hi; first | rfl | (cases Nat.lt_one_iff.1 hi; rfl)) | (simp <;> omega))) | refine ⟨?_, ?_⟩)); done) | (simp only [AllP, impG, inK]; grind))); refine XD.fin (by kernel_rfl) ?_; (repeat (first | refine XK.norm rfl rfl ?_ | ((first | refine XK.rgn hT rfl rfl rfl ?_ ?_ | refine XK.rgnD hT hm rfl rfl rfl (by kernel_rfl) ?_ ?_); focus (first | exact trivial | (simp [AllP, impG]; done) | (simp only [AllP, List.append, List.nil_append, List.cons_append, inK, tdiv_nn, tmod_nn, Int.toNat_natCast]; omega) | (simp [AllP, impG, inK, tdiv_nn, tmod_nn]; omega) | ((repeat (first | (focus (first | omega | (intro i hi; first | rfl | (cases Nat.lt_one_iff.1 hi; rfl)) | (simp <;> omega))) | refine ⟨?_, ?_⟩)); done) | (simp only [AllP, impG, inK]; grind)))))
    (repeat (first | refine XK.norm rfl rfl ?_ | ((first | refine XK.rgn hT rfl rfl rfl ?_ ?_ | refine XK.rgnD hT hm rfl rfl rfl (by kernel_rfl) ?_ ?_); focus (first | exact trivial | (simp [AllP, impG]; done) | (simp only [AllP, List.append, List.nil_append, List.cons_append, inK, tdiv_nn, tmod_nn, Int.toNat_natCast]; omega) | (simp [AllP, impG, inK, tdiv_nn, tmod_nn]; omega) | ((repeat (first | (focus (first | omega | (intro i hi; first | rfl | (cases Nat.lt_one_iff.1 hi; rfl)) | (simp <;> omega))) | refine ⟨?_, ?_⟩)); done) | (simp only [AllP, impG, inK]; grind))))); refine XK.cond rfl (fun h1 => ?_) (fun h1 => ?_)
    · (repeat (first | refine XK.norm rfl rfl ?_ | ((first | refine XK.rgn hT rfl rfl rfl ?_ ?_ | refine XK.rgnD hT hm rfl rfl rfl (by kernel_rfl) ?_ ?_); focus (first | exact trivial | (simp [AllP, impG]; done) | (simp only [AllP, List.append, List.nil_append, List.cons_append, inK, tdiv_nn, tmod_nn, Int.toNat_natCast]; omega) | (simp [AllP, impG, inK, tdiv_nn, tmod_nn]; omega) | ((repeat (first | (focus (first | omega | (intro i hi; first | rfl | (cases Nat.lt_one_iff.1 hi; rfl)) | (simp <;> omega))) | refine ⟨?_, ?_⟩)); done) | (simp only [AllP, impG, inK]; grind)))))
      (first | refine XK.out rfl rfl rfl ?_ | refine XK.outN rfl rfl rfl ?_)
      rfl
    · have h1 : checkR k l = 0 := by simpa using h1
      have h2 := checkR_take h1 hn
      have hlf : (l.take n).length = n := by simp; omega
      have hon : outsN k (l.take n) = k.clauses.length := by rw [outsN, if_pos h2]
      have hon2 : outsN k l = k.clauses.length := by rw [outsN, if_pos h1]
      rw [hlf, followR_take k l n n (Nat.le_refl _), hon, hon2, h2]
      (repeat (first | refine XK.norm rfl rfl ?_ | ((first | refine XK.rgn hT rfl rfl rfl ?_ ?_ | refine XK.rgnD hT hm rfl rfl rfl (by kernel_rfl) ?_ ?_); focus (first | exact trivial | (simp [AllP, impG]; done) | (simp only [AllP, List.append, List.nil_append, List.cons_append, inK, tdiv_nn, tmod_nn, Int.toNat_natCast]; omega) | (simp [AllP, impG, inK, tdiv_nn, tmod_nn]; omega) | ((repeat (first | (focus (first | omega | (intro i hi; first | rfl | (cases Nat.lt_one_iff.1 hi; rfl)) | (simp <;> omega))) | refine ⟨?_, ?_⟩)); done) | (simp only [AllP, impG, inK]; grind))))); refine XK.cond rfl (fun h3 => ?_) (fun h3 => ?_)
      · simp at h3
      · obtain ⟨hv, hso, hl4, -⟩ := checkR_ok hk h1
        have hf := hv.facts
        have hnc := hf.nc
        (repeat (first | refine XK.norm rfl rfl ?_ | ((first | refine XK.rgn hT rfl rfl rfl ?_ ?_ | refine XK.rgnD hT hm rfl rfl rfl (by kernel_rfl) ?_ ?_); focus (first | exact trivial | (simp [AllP, impG]; done) | (simp only [AllP, List.append, List.nil_append, List.cons_append, inK, tdiv_nn, tmod_nn, Int.toNat_natCast]; omega) | (simp [AllP, impG, inK, tdiv_nn, tmod_nn]; omega) | ((repeat (first | (focus (first | omega | (intro i hi; first | rfl | (cases Nat.lt_one_iff.1 hi; rfl)) | (simp <;> omega))) | refine ⟨?_, ?_⟩)); done) | (simp only [AllP, impG, inK]; grind)))))
        refine XK.loop (ι := Nat) (fun i => ST.of [(7, .c (.bool true)), (8, .c (.int .i64 n)), (9, ocsV k.clauses.length (followR k l l.length).out), (11, ocsV k.clauses.length (followR k l n).out), (13, .c (.int .i64 i))] [] 4000 166 (fun _ => false))
          (fun i => i ≤ k.clauses.length) (fun i => k.clauses.length - i) 0 (Nat.zero_le _)
          (Weak.of hN rfl rfl rfl (by (repeat' (first | exact rfl | exact AvIs.refl _ | exact trivial | exact fun _ _ => rfl | exact fun _ _ => ⟨rfl, AvIs.refl _⟩ | refine ⟨?_, ?_⟩))) (by (repeat' (first | exact rfl | exact AvIs.refl _ | exact trivial | exact fun _ _ => rfl | exact fun _ _ => ⟨rfl, AvIs.refl _⟩ | refine ⟨?_, ?_⟩)))) fun i hi => ?_
        (repeat (first | refine XK.norm rfl rfl ?_ | ((first | refine XK.rgn hT rfl rfl rfl ?_ ?_ | refine XK.rgnD hT hm rfl rfl rfl (by kernel_rfl) ?_ ?_); focus (first | exact trivial | (simp [AllP, impG]; done) | (simp only [AllP, List.append, List.nil_append, List.cons_append, inK, tdiv_nn, tmod_nn, Int.toNat_natCast]; omega) | (simp [AllP, impG, inK, tdiv_nn, tmod_nn]; omega) | ((repeat (first | (focus (first | omega | (intro i hi; first | rfl | (cases Nat.lt_one_iff.1 hi; rfl)) | (simp <;> omega))) | refine ⟨?_, ?_⟩)); done) | (simp only [AllP, impG, inK]; grind))))); refine XK.cond rfl (fun hlt => ?_) (fun hlt => ?_) <;> (try simp at hlt)
        · have hca := clause_inv hf hso hlt n hn (by omega)
          have hcb := clause_inv hf hso hlt l.length (Nat.le_refl _) (by omega)
          have hx := hf.clOk hlt
          have hla := later hf hso hlt n (l.length - n) (by omega) (by omega)
          rw [show n + (l.length - n) = l.length by omega] at hla
          have hp := prog_facts hx hca hcb hn hla
          clear hca hcb hla
          have fa : (followR k l n).out (i : Int).toNat = (followR k l n).out i := rfl
          have fb : (followR k l l.length).out (i : Int).toNat = (followR k l l.length).out i := rfl
          (repeat (first | refine XK.norm rfl rfl ?_ | ((first | refine XK.rgn hT rfl rfl rfl ?_ ?_ | refine XK.rgnD hT hm rfl rfl rfl (by kernel_rfl) ?_ ?_); focus (first | exact trivial | (simp [AllP, impG]; done) | (simp only [AllP, List.append, List.nil_append, List.cons_append, inK, tdiv_nn, tmod_nn, Int.toNat_natCast]; omega) | (simp [AllP, impG, inK, tdiv_nn, tmod_nn]; omega) | ((repeat (first | (focus (first | omega | (intro i hi; first | rfl | (cases Nat.lt_one_iff.1 hi; rfl)) | (simp <;> omega))) | refine ⟨?_, ?_⟩)); done) | (simp only [AllP, impG, inK]; grind)))))
          rw [fa, fb]
          generalize (followR k l n).out i = a at *
          generalize (followR k l l.length).out i = b at *
          obtain ⟨p1, p2, p3, p4, p5⟩ := hp
          have e : ((a.status == 3 || a.status == 4 || a.status == 5) == decide (0 ≤ a.to)) = true := by
            rw [beq_iff_eq, Bool.eq_iff_iff, decide_eq_true_eq, ← p1]
            simp [or_assoc]
          have e2 := beq_iff_eq.1 e
          (repeat (first | refine XK.norm rfl rfl ?_ | ((first | refine XK.rgn hT rfl rfl rfl ?_ ?_ | refine XK.rgnD hT hm rfl rfl rfl (by kernel_rfl) ?_ ?_); focus (first | exact trivial | (simp [AllP, impG]; done) | (simp only [AllP, List.append, List.nil_append, List.cons_append, inK, tdiv_nn, tmod_nn, Int.toNat_natCast]; omega) | (simp [AllP, impG, inK, tdiv_nn, tmod_nn]; omega) | ((repeat (first | (focus (first | omega | (intro i hi; first | rfl | (cases Nat.lt_one_iff.1 hi; rfl)) | (simp <;> omega))) | refine ⟨?_, ?_⟩)); done) | (simp only [AllP, impG, inK]; grind))))); refine XK.cond rfl (fun h6 => ?_) (fun h6 => ?_)
          · exfalso
            rw [e, e2] at h6
            by_cases q : 0 ≤ a.to
            · have := p2 q
              subst this
              simp at h6
              omega
            · simp [q] at h6
              omega
          · rw [e2]
            (repeat (first | refine XK.norm rfl rfl ?_ | ((first | refine XK.rgn hT rfl rfl rfl ?_ ?_ | refine XK.rgnD hT hm rfl rfl rfl (by kernel_rfl) ?_ ?_); focus (first | exact trivial | (simp [AllP, impG]; done) | (simp only [AllP, List.append, List.nil_append, List.cons_append, inK, tdiv_nn, tmod_nn, Int.toNat_natCast]; omega) | (simp [AllP, impG, inK, tdiv_nn, tmod_nn]; omega) | ((repeat (first | (focus (first | omega | (intro i hi; first | rfl | (cases Nat.lt_one_iff.1 hi; rfl)) | (simp <;> omega))) | refine ⟨?_, ?_⟩)); done) | (simp only [AllP, impG, inK]; grind))))); refine XK.cond rfl (fun h7 => ?_) (fun h7 => ?_)
            · (repeat (first | refine XK.norm rfl rfl ?_ | ((first | refine XK.rgn hT rfl rfl rfl ?_ ?_ | refine XK.rgnD hT hm rfl rfl rfl (by kernel_rfl) ?_ ?_); focus (first | exact trivial | (simp [AllP, impG]; done) | (simp only [AllP, List.append, List.nil_append, List.cons_append, inK, tdiv_nn, tmod_nn, Int.toNat_natCast]; omega) | (simp [AllP, impG, inK, tdiv_nn, tmod_nn]; omega) | ((repeat (first | (focus (first | omega | (intro i hi; first | rfl | (cases Nat.lt_one_iff.1 hi; rfl)) | (simp <;> omega))) | refine ⟨?_, ?_⟩)); done) | (simp only [AllP, impG, inK]; grind)))))
              exact XK.inv ⟨i + 1, hlt, (Weak.of hN rfl rfl rfl (by (repeat' (first | exact rfl | exact AvIs.refl _ | exact trivial | exact fun _ _ => rfl | exact fun _ _ => ⟨rfl, AvIs.refl _⟩ | refine ⟨?_, ?_⟩))) (by (repeat' (first | exact rfl | exact AvIs.refl _ | exact trivial | exact fun _ _ => rfl | exact fun _ _ => ⟨rfl, AvIs.refl _⟩ | refine ⟨?_, ?_⟩)))), by omega⟩
            · have h7 : a.to < 0 := by simpa using h7
              obtain ⟨q1, q2, q3⟩ := p5 h7
              (repeat (first | refine XK.norm rfl rfl ?_ | ((first | refine XK.rgn hT rfl rfl rfl ?_ ?_ | refine XK.rgnD hT hm rfl rfl rfl (by kernel_rfl) ?_ ?_); focus (first | exact trivial | (simp [AllP, impG]; done) | (simp only [AllP, List.append, List.nil_append, List.cons_append, inK, tdiv_nn, tmod_nn, Int.toNat_natCast]; omega) | (simp [AllP, impG, inK, tdiv_nn, tmod_nn]; omega) | ((repeat (first | (focus (first | omega | (intro i hi; first | rfl | (cases Nat.lt_one_iff.1 hi; rfl)) | (simp <;> omega))) | refine ⟨?_, ?_⟩)); done) | (simp only [AllP, impG, inK]; grind))))); refine XK.cond rfl (fun h8 => ?_) (fun h8 => ?_)
              · exfalso
                simp at h8
                omega
              · (repeat (first | refine XK.norm rfl rfl ?_ | ((first | refine XK.rgn hT rfl rfl rfl ?_ ?_ | refine XK.rgnD hT hm rfl rfl rfl (by kernel_rfl) ?_ ?_); focus (first | exact trivial | (simp [AllP, impG]; done) | (simp only [AllP, List.append, List.nil_append, List.cons_append, inK, tdiv_nn, tmod_nn, Int.toNat_natCast]; omega) | (simp [AllP, impG, inK, tdiv_nn, tmod_nn]; omega) | ((repeat (first | (focus (first | omega | (intro i hi; first | rfl | (cases Nat.lt_one_iff.1 hi; rfl)) | (simp <;> omega))) | refine ⟨?_, ?_⟩)); done) | (simp only [AllP, impG, inK]; grind))))); refine XK.cond rfl (fun h9 => ?_) (fun h9 => ?_)
                · exfalso
                  simp at h9
                  have := q3 h9.1
                  omega
                · (repeat (first | refine XK.norm rfl rfl ?_ | ((first | refine XK.rgn hT rfl rfl rfl ?_ ?_ | refine XK.rgnD hT hm rfl rfl rfl (by kernel_rfl) ?_ ?_); focus (first | exact trivial | (simp [AllP, impG]; done) | (simp only [AllP, List.append, List.nil_append, List.cons_append, inK, tdiv_nn, tmod_nn, Int.toNat_natCast]; omega) | (simp [AllP, impG, inK, tdiv_nn, tmod_nn]; omega) | ((repeat (first | (focus (first | omega | (intro i hi; first | rfl | (cases Nat.lt_one_iff.1 hi; rfl)) | (simp <;> omega))) | refine ⟨?_, ?_⟩)); done) | (simp only [AllP, impG, inK]; grind)))))
                  exact XK.inv ⟨i + 1, hlt, (Weak.of hN rfl rfl rfl (by (repeat' (first | exact rfl | exact AvIs.refl _ | exact trivial | exact fun _ _ => rfl | exact fun _ _ => ⟨rfl, AvIs.refl _⟩ | refine ⟨?_, ?_⟩))) (by (repeat' (first | exact rfl | exact AvIs.refl _ | exact trivial | exact fun _ _ => rfl | exact fun _ _ => ⟨rfl, AvIs.refl _⟩ | refine ⟨?_, ?_⟩)))), by omega⟩
        · (repeat (first | refine XK.norm rfl rfl ?_ | ((first | refine XK.rgn hT rfl rfl rfl ?_ ?_ | refine XK.rgnD hT hm rfl rfl rfl (by kernel_rfl) ?_ ?_); focus (first | exact trivial | (simp [AllP, impG]; done) | (simp only [AllP, List.append, List.nil_append, List.cons_append, inK, tdiv_nn, tmod_nn, Int.toNat_natCast]; omega) | (simp [AllP, impG, inK, tdiv_nn, tmod_nn]; omega) | ((repeat (first | (focus (first | omega | (intro i hi; first | rfl | (cases Nat.lt_one_iff.1 hi; rfl)) | (simp <;> omega))) | refine ⟨?_, ?_⟩)); done) | (simp only [AllP, impG, inK]; grind)))))
          (first | refine XK.out rfl rfl rfl ?_ | refine XK.outN rfl rfl rfl ?_)
          rfl
end Go.Proofs.Ytmnnjllimphjhaa
