/- The law TraceBearers: the walk. -/
import Derived.Test.YtmnnjllimphjhaaTI
namespace Go.Proofs.Ytmnnjllimphjhaa
open Go.Eng
set_option maxRecDepth 10000
set_option linter.unusedSimpArgs false
set_option linter.unusedVariables false
/-- Who bears a clause. -/
theorem bear_inv {k : K} (hk : KFacts k) {l : List Int} (hl : stepsOk k l) {j : Nat} (hj : j < k.clauses.length) : ∀ n, n ≤ l.length → l.length < 900000 →
    ((((followR k l n).out j).from_ < 0 ∨ (clAt k j).kind = 4) → ((followR k l n).out j).bearer = -1) ∧ ((followR k l n).out j).from_ ≤ n ∧
    (0 ≤ ((followR k l n).out j).from_ → (clAt k j).kind ≠ 4 → ((followR k l n).out j).bearer = (followR k l ((followR k l n).out j).from_.toNat).hold (clAt k j).role.toNat ∨ NovB k (clAt k j).role ((followR k l n).out j).bearer)
  | 0, _, _ => by
    have h0 := begin0_ok hk
    have h1 := startR_kept (k := k) (r := begin0 k) (kn := knownTo k k.clauses.length) (by simp [begin0]) h0.wait
    have e : followR k l 0 = beginR k := rfl
    have hb : ((begin0 k).out j).bearer = -1 ∧ ((begin0 k).out j).from_ = -1 := by simp only [begin0, firstOut]; split <;> exact ⟨rfl, rfl⟩
    rcases (startR_rel (k := k) (r := begin0 k) (kn := knownTo k k.clauses.length) (by simp [begin0]) h0.wait).out j with h2 | ⟨h2, ⟨z, h3⟩, h4⟩
    · rw [e, beginR, h2]
      exact ⟨fun _ => hb.1, by omega, fun h => by omega⟩
    · have h4' : (followR k l 0).out j = startOne k (begin0 k) j := h4
      have h5 : (followR k l 0).hold = (begin0 k).hold := h1.hold
      rw [h4']
      have hs : (begin0 k).steps = 0 := rfl
      simp only [startOne, hs]
      refine ⟨fun h => ?_, by simp, fun _ h => .inl ?_⟩
      · rcases h with h | h
        · omega
        · rw [if_neg (by simpa using h)]; exact hb.1
      · rw [if_pos h, show (0 : Int).toNat = 0 from rfl, h5]
  | n + 1, hn, h9 => by
    obtain ⟨ih1, ih0, ih2⟩ := bear_inv hk hl hj n (by omega) h9
    have hs := step_rel hk hl hj (n := n) (by omega) (by omega)
    have hH : ∀ f, f = n + 1 → (followR k l (n + 1)).hold (clAt k j).role.toNat = (followR k l f).hold (clAt k j).role.toNat := fun f h => by rw [h]
    generalize (followR k l n).out j = o at *
    generalize (followR k l (n + 1)).hold (clAt k j).role.toNat = H at *
    generalize (followR k l (n + 1)).out j = o' at *
    refine ⟨fun h => ?_, ?_, fun h h4 => ?_⟩
    · by_cases h4 : (clAt k j).kind = 4
      · rw [hs.bearer4 h4]; exact ih1 (.inr h4)
      · have h := h.resolve_right h4
        by_cases h5 : o.from_ < 0
        · rcases hs.start h5 with h6 | h6
          · rw [h6]; exact ih1 (.inl h5)
          · omega
        · have := hs.from_ (by omega); omega
    · by_cases h5 : o.from_ < 0
      · rcases hs.start h5 with h6 | h6
        · rw [h6]; omega
        · omega
      · have := hs.from_ (by omega); omega
    · by_cases h5 : o.from_ < 0
      · rcases hs.start h5 with h6 | h6
        · rw [h6] at h; omega
        · left
          rw [hs.bearerS h5 h h4]
          exact hH _ (by omega)
      · have h6 := hs.from_ (by omega)
        rcases hs.bearer (by omega) with h7 | ⟨_, h7⟩
        · rw [h7, h6]; exact ih2 (by omega) h4
        · exact .inr h7
/-- Some act of the first n novates the role to b. -/
def novAny (k : K) (role b : Int) : Nat → Bool
  | 0 => false
  | n + 1 => novAny k role b n || ((acAt k n).kind == 3 && (acAt k n).give == role && (acAt k n).to == b)
theorem novAny_of {k : K} {role b : Int} {s : Nat} (h : (acAt k s).kind = 3 ∧ (acAt k s).give = role ∧ (acAt k s).to = b) : ∀ n, s < n → novAny k role b n = true
  | 0, hs => absurd hs (Nat.not_lt_zero _)
  | n + 1, hs => by
    rw [novAny]
    by_cases e : s = n
    · subst e; simp [h]
    · rw [novAny_of h n (by omega)]; rfl
theorem law9t (k : K) (hk : kW k) (l : List Int) : Does Try.prog 9 [kV k, intsV l] (.c (.bool true)) := by
  refine Does.mk (fun _ => false) TT_ok Try.func9 rfl (by kernel_rfl) Try.ntmps9 rfl rfl fun E hT hE hN => ?_
  have hm : E.P.follows .mixedOrders = true := by rw [hE]; kernel_rfl
  (repeat (first | refine XK.norm rfl rfl ?_ | ((first | refine XK.rgn hT rfl rfl rfl ?_ ?_ | refine XK.rgnD hT hm rfl rfl rfl (by kernel_rfl) ?_ ?_); focus (first | exact trivial | (simp [AllP, impG]; done) | (simp only [AllP, List.append, List.nil_append, List.cons_append, inK, tdiv_nn, tmod_nn, Int.toNat_natCast]; omega) | (simp [AllP, impG, inK, tdiv_nn, tmod_nn]; omega) | ((repeat (first | (focus (first | omega | (intro i hi; first | rfl | (cases Nat.lt_one_iff.1 hi; rfl)) | (simp <;> omega))) | refine ⟨?_, ?_⟩)); done) | (simp only [AllP, impG, inK]; grind))))); refine XK.region ?_; ((refine XL.go hT rfl rfl rfl rfl ?_ ?_); focus (first | exact trivial | (simp [AllP, impG]; done) | (simp only [AllP, List.append, List.nil_append, List.cons_append, inK, tdiv_nn, tmod_nn, Int.toNat_natCast]; omega) | (simp [AllP, impG, inK, tdiv_nn, tmod_nn]; omega) | ((repeat (first | (focus (first | omega | (intro i hi; first | rfl | (cases Nat.lt_one_iff.1 hi; rfl)) | (simp <;> omega))) | refine ⟨?_, ?_⟩)); done) | (simp only [AllP, impG, inK]; grind)))
  ((refine XL.callL hE rfl rfl rfl rfl trivial rfl (head14_ok) ?_ rfl ?_); focus (repeat' (first | exact rfl | exact AvIs.refl _ | exact trivial | (intro i hi; rfl) | exact fun _ _ => ⟨rfl, AvIs.refl _⟩ | (intro i hi; rcases i with _ | _ | _ | _ | _ | _ | _ | i <;> first | rfl | exact absurd hi (by simp; done) | (simp at hi; omega)) | refine ⟨?_, ?_⟩)))
  ((refine XL.go hT rfl rfl rfl rfl ?_ ?_); focus (first | exact trivial | (simp [AllP, impG]; done) | (simp only [AllP, List.append, List.nil_append, List.cons_append, inK, tdiv_nn, tmod_nn, Int.toNat_natCast]; omega) | (simp [AllP, impG, inK, tdiv_nn, tmod_nn]; omega) | ((repeat (first | (focus (first | omega | (intro i hi; first | rfl | (cases Nat.lt_one_iff.1 hi; rfl)) | (simp <;> omega))) | refine ⟨?_, ?_⟩)); done) | (simp only [AllP, impG, inK]; grind))); refine XL.fin ?_; (repeat (first | refine XK.norm rfl rfl ?_ | ((first | refine XK.rgn hT rfl rfl rfl ?_ ?_ | refine XK.rgnD hT hm rfl rfl rfl (by kernel_rfl) ?_ ?_); focus (first | exact trivial | (simp [AllP, impG]; done) | (simp only [AllP, List.append, List.nil_append, List.cons_append, inK, tdiv_nn, tmod_nn, Int.toNat_natCast]; omega) | (simp [AllP, impG, inK, tdiv_nn, tmod_nn]; omega) | ((repeat (first | (focus (first | omega | (intro i hi; first | rfl | (cases Nat.lt_one_iff.1 hi; rfl)) | (simp <;> omega))) | refine ⟨?_, ?_⟩)); done) | (simp only [AllP, impG, inK]; grind)))))
  (repeat (first | refine XK.norm rfl rfl ?_ | ((first | refine XK.rgn hT rfl rfl rfl ?_ ?_ | refine XK.rgnD hT hm rfl rfl rfl (by kernel_rfl) ?_ ?_); focus (first | exact trivial | (simp [AllP, impG]; done) | (simp only [AllP, List.append, List.nil_append, List.cons_append, inK, tdiv_nn, tmod_nn, Int.toNat_natCast]; omega) | (simp [AllP, impG, inK, tdiv_nn, tmod_nn]; omega) | ((repeat (first | (focus (first | omega | (intro i hi; first | rfl | (cases Nat.lt_one_iff.1 hi; rfl)) | (simp <;> omega))) | refine ⟨?_, ?_⟩)); done) | (simp only [AllP, impG, inK]; grind))))); refine XK.region ?_; ((refine XL.go hT rfl rfl rfl rfl ?_ ?_); focus (first | exact trivial | (simp [AllP, impG]; done) | (simp only [AllP, List.append, List.nil_append, List.cons_append, inK, tdiv_nn, tmod_nn, Int.toNat_natCast]; omega) | (simp [AllP, impG, inK, tdiv_nn, tmod_nn]; omega) | ((repeat (first | (focus (first | omega | (intro i hi; first | rfl | (cases Nat.lt_one_iff.1 hi; rfl)) | (simp <;> omega))) | refine ⟨?_, ?_⟩)); done) | (simp only [AllP, impG, inK]; grind)))
  ((refine XL.callL hE rfl rfl rfl rfl trivial rfl (smallK_ok k l) ?_ rfl ?_); focus (repeat' (first | exact rfl | exact AvIs.refl _ | exact trivial | (intro i hi; rfl) | exact fun _ _ => ⟨rfl, AvIs.refl _⟩ | (intro i hi; rcases i with _ | _ | _ | _ | _ | _ | _ | i <;> first | rfl | exact absurd hi (by simp; done) | (simp at hi; omega)) | refine ⟨?_, ?_⟩)))
  ((refine XL.go hT rfl rfl rfl rfl ?_ ?_); focus (first | exact trivial | (simp [AllP, impG]; done) | (simp only [AllP, List.append, List.nil_append, List.cons_append, inK, tdiv_nn, tmod_nn, Int.toNat_natCast]; omega) | (simp [AllP, impG, inK, tdiv_nn, tmod_nn]; omega) | ((repeat (first | (focus (first | omega | (intro i hi; first | rfl | (cases Nat.lt_one_iff.1 hi; rfl)) | (simp <;> omega))) | refine ⟨?_, ?_⟩)); done) | (simp only [AllP, impG, inK]; grind))); refine XL.fin ?_; (repeat (first | refine XK.norm rfl rfl ?_ | ((first | refine XK.rgn hT rfl rfl rfl ?_ ?_ | refine XK.rgnD hT hm rfl rfl rfl (by kernel_rfl) ?_ ?_); focus (first | exact trivial | (simp [AllP, impG]; done) | (simp only [AllP, List.append, List.nil_append, List.cons_append, inK, tdiv_nn, tmod_nn, Int.toNat_natCast]; omega) | (simp [AllP, impG, inK, tdiv_nn, tmod_nn]; omega) | ((repeat (first | (focus (first | omega | (intro i hi; first | rfl | (cases Nat.lt_one_iff.1 hi; rfl)) | (simp <;> omega))) | refine ⟨?_, ?_⟩)); done) | (simp only [AllP, impG, inK]; grind)))))
  (repeat (first | refine XK.norm rfl rfl ?_ | ((first | refine XK.rgn hT rfl rfl rfl ?_ ?_ | refine XK.rgnD hT hm rfl rfl rfl (by kernel_rfl) ?_ ?_); focus (first | exact trivial | (simp [AllP, impG]; done) | (simp only [AllP, List.append, List.nil_append, List.cons_append, inK, tdiv_nn, tmod_nn, Int.toNat_natCast]; omega) | (simp [AllP, impG, inK, tdiv_nn, tmod_nn]; omega) | ((repeat (first | (focus (first | omega | (intro i hi; first | rfl | (cases Nat.lt_one_iff.1 hi; rfl)) | (simp <;> omega))) | refine ⟨?_, ?_⟩)); done) | (simp only [AllP, impG, inK]; grind))))); refine XK.cond rfl (fun hs => ?_) (fun hs => ?_)
  · (repeat (first | refine XK.norm rfl rfl ?_ | ((first | refine XK.rgn hT rfl rfl rfl ?_ ?_ | refine XK.rgnD hT hm rfl rfl rfl (by kernel_rfl) ?_ ?_); focus (first | exact trivial | (simp [AllP, impG]; done) | (simp only [AllP, List.append, List.nil_append, List.cons_append, inK, tdiv_nn, tmod_nn, Int.toNat_natCast]; omega) | (simp [AllP, impG, inK, tdiv_nn, tmod_nn]; omega) | ((repeat (first | (focus (first | omega | (intro i hi; first | rfl | (cases Nat.lt_one_iff.1 hi; rfl)) | (simp <;> omega))) | refine ⟨?_, ?_⟩)); done) | (simp only [AllP, impG, inK]; grind)))))
    (first | refine XK.out rfl rfl rfl ?_ | refine XK.outN rfl rfl rfl ?_)
    rfl
  · have hlen := (small_len hs).1
    (repeat (first | refine XK.norm rfl rfl ?_ | ((first | refine XK.rgn hT rfl rfl rfl ?_ ?_ | refine XK.rgnD hT hm rfl rfl rfl (by kernel_rfl) ?_ ?_); focus (first | exact trivial | (simp [AllP, impG]; done) | (simp only [AllP, List.append, List.nil_append, List.cons_append, inK, tdiv_nn, tmod_nn, Int.toNat_natCast]; omega) | (simp [AllP, impG, inK, tdiv_nn, tmod_nn]; omega) | ((repeat (first | (focus (first | omega | (intro i hi; first | rfl | (cases Nat.lt_one_iff.1 hi; rfl)) | (simp <;> omega))) | refine ⟨?_, ?_⟩)); done) | (simp only [AllP, impG, inK]; grind))))); refine XK.region ?_; ((refine XL.go hT rfl rfl rfl rfl ?_ ?_); focus (first | exact trivial | (simp [AllP, impG]; done) | (simp only [AllP, List.append, List.nil_append, List.cons_append, inK, tdiv_nn, tmod_nn, Int.toNat_natCast]; omega) | (simp [AllP, impG, inK, tdiv_nn, tmod_nn]; omega) | ((repeat (first | (focus (first | omega | (intro i hi; first | rfl | (cases Nat.lt_one_iff.1 hi; rfl)) | (simp <;> omega))) | refine ⟨?_, ?_⟩)); done) | (simp only [AllP, impG, inK]; grind)))
    ((refine XL.callK hE rfl rfl rfl rfl trivial rfl rfl (outcomes_ok k hk l) ?_ ?_); focus (repeat' (first | exact rfl | exact AvIs.refl _ | exact trivial | (intro i hi; rfl) | exact fun _ _ => ⟨rfl, AvIs.refl _⟩ | (intro i hi; rcases i with _ | _ | _ | _ | _ | _ | _ | i <;> first | rfl | exact absurd hi (by simp; done) | (simp at hi; omega)) | refine ⟨?_, ?_⟩)))
    ((refine XL.go hT rfl rfl rfl rfl ?_ ?_); focus (first | exact trivial | (simp [AllP, impG]; done) | (simp only [AllP, List.append, List.nil_append, List.cons_append, inK, tdiv_nn, tmod_nn, Int.toNat_natCast]; omega) | (simp [AllP, impG, inK, tdiv_nn, tmod_nn]; omega) | ((repeat (first | (focus (first | omega | (intro i hi; first | rfl | (cases Nat.lt_one_iff.1 hi; rfl)) | (simp <;> omega))) | refine ⟨?_, ?_⟩)); done) | (simp only [AllP, impG, inK]; grind))); refine XL.fin ?_; (repeat (first | refine XK.norm rfl rfl ?_ | ((first | refine XK.rgn hT rfl rfl rfl ?_ ?_ | refine XK.rgnD hT hm rfl rfl rfl (by kernel_rfl) ?_ ?_); focus (first | exact trivial | (simp [AllP, impG]; done) | (simp only [AllP, List.append, List.nil_append, List.cons_append, inK, tdiv_nn, tmod_nn, Int.toNat_natCast]; omega) | (simp [AllP, impG, inK, tdiv_nn, tmod_nn]; omega) | ((repeat (first | (focus (first | omega | (intro i hi; first | rfl | (cases Nat.lt_one_iff.1 hi; rfl)) | (simp <;> omega))) | refine ⟨?_, ?_⟩)); done) | (simp only [AllP, impG, inK]; grind)))))
    (repeat (first | refine XK.norm rfl rfl ?_ | ((first | refine XK.rgn hT rfl rfl rfl ?_ ?_ | refine XK.rgnD hT hm rfl rfl rfl (by kernel_rfl) ?_ ?_); focus (first | exact trivial | (simp [AllP, impG]; done) | (simp only [AllP, List.append, List.nil_append, List.cons_append, inK, tdiv_nn, tmod_nn, Int.toNat_natCast]; omega) | (simp [AllP, impG, inK, tdiv_nn, tmod_nn]; omega) | ((repeat (first | (focus (first | omega | (intro i hi; first | rfl | (cases Nat.lt_one_iff.1 hi; rfl)) | (simp <;> omega))) | refine ⟨?_, ?_⟩)); done) | (simp only [AllP, impG, inK]; grind))))); refine XK.cond rfl (fun h1 => ?_) (fun h1 => ?_)
    · (repeat (first | refine XK.norm rfl rfl ?_ | ((first | refine XK.rgn hT rfl rfl rfl ?_ ?_ | refine XK.rgnD hT hm rfl rfl rfl (by kernel_rfl) ?_ ?_); focus (first | exact trivial | (simp [AllP, impG]; done) | (simp only [AllP, List.append, List.nil_append, List.cons_append, inK, tdiv_nn, tmod_nn, Int.toNat_natCast]; omega) | (simp [AllP, impG, inK, tdiv_nn, tmod_nn]; omega) | ((repeat (first | (focus (first | omega | (intro i hi; first | rfl | (cases Nat.lt_one_iff.1 hi; rfl)) | (simp <;> omega))) | refine ⟨?_, ?_⟩)); done) | (simp only [AllP, impG, inK]; grind)))))
      (first | refine XK.out rfl rfl rfl ?_ | refine XK.outN rfl rfl rfl ?_)
      rfl
    · have h1 : checkR k l = 0 := by simpa using h1
      obtain ⟨h2, h3, h4, -⟩ := checkR_ok hk h1
      have hf := h2.facts
      have hnc := hf.nc
      have hna := hf.na
      have hon : outsN k l = k.clauses.length := by rw [outsN, if_pos h1]
      rw [hon]
      (repeat (first | refine XK.norm rfl rfl ?_ | ((first | refine XK.rgn hT rfl rfl rfl ?_ ?_ | refine XK.rgnD hT hm rfl rfl rfl (by kernel_rfl) ?_ ?_); focus (first | exact trivial | (simp [AllP, impG]; done) | (simp only [AllP, List.append, List.nil_append, List.cons_append, inK, tdiv_nn, tmod_nn, Int.toNat_natCast]; omega) | (simp [AllP, impG, inK, tdiv_nn, tmod_nn]; omega) | ((repeat (first | (focus (first | omega | (intro i hi; first | rfl | (cases Nat.lt_one_iff.1 hi; rfl)) | (simp <;> omega))) | refine ⟨?_, ?_⟩)); done) | (simp only [AllP, impG, inK]; grind))))); refine XK.cond rfl (fun h5 => ?_) (fun h5 => ?_)
      · simp at h5
      · (repeat (first | refine XK.norm rfl rfl ?_ | ((first | refine XK.rgn hT rfl rfl rfl ?_ ?_ | refine XK.rgnD hT hm rfl rfl rfl (by kernel_rfl) ?_ ?_); focus (first | exact trivial | (simp [AllP, impG]; done) | (simp only [AllP, List.append, List.nil_append, List.cons_append, inK, tdiv_nn, tmod_nn, Int.toNat_natCast]; omega) | (simp [AllP, impG, inK, tdiv_nn, tmod_nn]; omega) | ((repeat (first | (focus (first | omega | (intro i hi; first | rfl | (cases Nat.lt_one_iff.1 hi; rfl)) | (simp <;> omega))) | refine ⟨?_, ?_⟩)); done) | (simp only [AllP, impG, inK]; grind)))))
        refine XK.loop (ι := Nat) (fun i => ST.of [(1, intsV l), (2, .ptr 2 0), (5, .c (.bool true)), (6, ocsV k.clauses.length (followR k l l.length).out), (8, .c (.int .i64 i))] [(2, .cells 27 (kC k))] 2000 136 (fun _ => false))
          (fun i => i ≤ k.clauses.length) (fun i => k.clauses.length - i) 0 (Nat.zero_le _)
          (Weak.of hN rfl rfl rfl (by (repeat' (first | exact rfl | exact AvIs.refl _ | exact trivial | exact fun _ _ => rfl | exact fun _ _ => ⟨rfl, AvIs.refl _⟩ | refine ⟨?_, ?_⟩))) (by (repeat' (first | exact rfl | exact AvIs.refl _ | exact trivial | exact fun _ _ => rfl | exact fun _ _ => ⟨rfl, AvIs.refl _⟩ | refine ⟨?_, ?_⟩)))) fun i hi => ?_
        (repeat (first | refine XK.norm rfl rfl ?_ | ((first | refine XK.rgn hT rfl rfl rfl ?_ ?_ | refine XK.rgnD hT hm rfl rfl rfl (by kernel_rfl) ?_ ?_); focus (first | exact trivial | (simp [AllP, impG]; done) | (simp only [AllP, List.append, List.nil_append, List.cons_append, inK, tdiv_nn, tmod_nn, Int.toNat_natCast]; omega) | (simp [AllP, impG, inK, tdiv_nn, tmod_nn]; omega) | ((repeat (first | (focus (first | omega | (intro i hi; first | rfl | (cases Nat.lt_one_iff.1 hi; rfl)) | (simp <;> omega))) | refine ⟨?_, ?_⟩)); done) | (simp only [AllP, impG, inK]; grind))))); refine XK.cond rfl (fun hlt => ?_) (fun hlt => ?_) <;> (try simp at hlt)
        · obtain ⟨hb1, hb2, hb3⟩ := bear_inv hf h3 hlt l.length (Nat.le_refl _) (by omega)
          have hro := kind_facts (hf.clB hlt).2.2.1
          have hxw := hf.clW' hlt
          have hlink := fun n hn => (hold_link hf h3 n hn (by omega)).1
          have fc : k.clauses.getD (i : Int).toNat default = clAt k i := rfl
          (repeat (first | refine XK.norm rfl rfl ?_ | ((first | refine XK.rgn hT rfl rfl rfl ?_ ?_ | refine XK.rgnD hT hm rfl rfl rfl (by kernel_rfl) ?_ ?_); focus (first | exact trivial | (simp [AllP, impG]; done) | (simp only [AllP, List.append, List.nil_append, List.cons_append, inK, tdiv_nn, tmod_nn, Int.toNat_natCast]; omega) | (simp [AllP, impG, inK, tdiv_nn, tmod_nn]; omega) | ((repeat (first | (focus (first | omega | (intro i hi; first | rfl | (cases Nat.lt_one_iff.1 hi; rfl)) | (simp <;> omega))) | refine ⟨?_, ?_⟩)); done) | (simp only [AllP, impG, inK]; grind)))))
          rw [fc]
          (repeat (first | refine XK.norm rfl rfl ?_ | ((first | refine XK.rgn hT rfl rfl rfl ?_ ?_ | refine XK.rgnD hT hm rfl rfl rfl (by kernel_rfl) ?_ ?_); focus (first | exact trivial | (simp [AllP, impG]; done) | (simp only [AllP, List.append, List.nil_append, List.cons_append, inK, tdiv_nn, tmod_nn, Int.toNat_natCast]; omega) | (simp [AllP, impG, inK, tdiv_nn, tmod_nn]; omega) | ((repeat (first | (focus (first | omega | (intro i hi; first | rfl | (cases Nat.lt_one_iff.1 hi; rfl)) | (simp <;> omega))) | refine ⟨?_, ?_⟩)); done) | (simp only [AllP, impG, inK]; grind))))); refine XK.cond rfl (fun h6 => ?_) (fun h6 => ?_)
          · have h6 : (clAt k i).kind = 4 ∨ ((followR k l l.length).out i).from_ < 0 := by simpa using h6
            have := hb1 h6.symm
            (repeat (first | refine XK.norm rfl rfl ?_ | ((first | refine XK.rgn hT rfl rfl rfl ?_ ?_ | refine XK.rgnD hT hm rfl rfl rfl (by kernel_rfl) ?_ ?_); focus (first | exact trivial | (simp [AllP, impG]; done) | (simp only [AllP, List.append, List.nil_append, List.cons_append, inK, tdiv_nn, tmod_nn, Int.toNat_natCast]; omega) | (simp [AllP, impG, inK, tdiv_nn, tmod_nn]; omega) | ((repeat (first | (focus (first | omega | (intro i hi; first | rfl | (cases Nat.lt_one_iff.1 hi; rfl)) | (simp <;> omega))) | refine ⟨?_, ?_⟩)); done) | (simp only [AllP, impG, inK]; grind))))); refine XK.cond rfl (fun h7 => ?_) (fun h7 => ?_)
            · simp [this] at h7
            · (repeat (first | refine XK.norm rfl rfl ?_ | ((first | refine XK.rgn hT rfl rfl rfl ?_ ?_ | refine XK.rgnD hT hm rfl rfl rfl (by kernel_rfl) ?_ ?_); focus (first | exact trivial | (simp [AllP, impG]; done) | (simp only [AllP, List.append, List.nil_append, List.cons_append, inK, tdiv_nn, tmod_nn, Int.toNat_natCast]; omega) | (simp [AllP, impG, inK, tdiv_nn, tmod_nn]; omega) | ((repeat (first | (focus (first | omega | (intro i hi; first | rfl | (cases Nat.lt_one_iff.1 hi; rfl)) | (simp <;> omega))) | refine ⟨?_, ?_⟩)); done) | (simp only [AllP, impG, inK]; grind)))))
              exact XK.inv ⟨i + 1, hlt, (Weak.of hN rfl rfl rfl (by (repeat' (first | exact rfl | exact AvIs.refl _ | exact trivial | exact fun _ _ => rfl | exact fun _ _ => ⟨rfl, AvIs.refl _⟩ | refine ⟨?_, ?_⟩))) (by (repeat' (first | exact rfl | exact AvIs.refl _ | exact trivial | exact fun _ _ => rfl | exact fun _ _ => ⟨rfl, AvIs.refl _⟩ | refine ⟨?_, ?_⟩)))), by omega⟩
          · have h6 : (clAt k i).kind ≠ 4 ∧ 0 ≤ ((followR k l l.length).out i).from_ := by simpa using h6
            have hb3 := hb3 h6.2 h6.1
            have hro : 0 ≤ (clAt k i).role ∧ (clAt k i).role < k.holders.length := by
              rcases hro with h | h
              · exact absurd h.1 h6.1
              · exact h.1
            obtain ⟨r, er⟩ := Int.eq_ofNat_of_zero_le hro.1
            obtain ⟨f, ef⟩ := Int.eq_ofNat_of_zero_le h6.2
            have hh : holderR k l (clAt k i).role ((followR k l l.length).out i).from_ = ((holdTo k l r f).1, 0) := by rw [er, ef]; exact holderR_at h1 (by omega) (by omega)
            rw [ef, er, show (f : Int).toNat = f from rfl, show (r : Int).toNat = r from rfl, hlink f (by omega) r (by omega), ← er] at hb3
            (repeat (first | refine XK.norm rfl rfl ?_ | ((first | refine XK.rgn hT rfl rfl rfl ?_ ?_ | refine XK.rgnD hT hm rfl rfl rfl (by kernel_rfl) ?_ ?_); focus (first | exact trivial | (simp [AllP, impG]; done) | (simp only [AllP, List.append, List.nil_append, List.cons_append, inK, tdiv_nn, tmod_nn, Int.toNat_natCast]; omega) | (simp [AllP, impG, inK, tdiv_nn, tmod_nn]; omega) | ((repeat (first | (focus (first | omega | (intro i hi; first | rfl | (cases Nat.lt_one_iff.1 hi; rfl)) | (simp <;> omega))) | refine ⟨?_, ?_⟩)); done) | (simp only [AllP, impG, inK]; grind))))); refine XK.drawn hm ?_; ((refine XD.go hT rfl rfl rfl rfl ?_ ?_); focus (first | exact trivial | (simp [AllP, impG]; done) | (simp only [AllP, List.append, List.nil_append, List.cons_append, inK, tdiv_nn, tmod_nn, Int.toNat_natCast]; omega) | (simp [AllP, impG, inK, tdiv_nn, tmod_nn]; omega) | ((repeat (first | (focus (first | omega | (intro i hi; first | rfl | (cases Nat.lt_one_iff.1 hi; rfl)) | (simp <;> omega))) | refine ⟨?_, ?_⟩)); done) | (simp only [AllP, impG, inK]; grind)))
            ((refine XD.callK hE rfl rfl rfl rfl trivial rfl rfl (holder_ok k hk l (clAt k i).role ((followR k l l.length).out i).from_) ?_ ?_); focus (repeat' (first | exact rfl | exact AvIs.refl _ | exact trivial | (intro i hi; rfl) | exact fun _ _ => ⟨rfl, AvIs.refl _⟩ | (intro i hi; rcases i with _ | _ | _ | _ | _ | _ | _ | i <;> first | rfl | exact absurd hi (by simp; done) | (simp at hi; omega)) | refine ⟨?_, ?_⟩)))
            ((refine XD.go hT rfl rfl rfl rfl ?_ ?_); focus (first | exact trivial | (simp [AllP, impG]; done) | (simp only [AllP, List.append, List.nil_append, List.cons_append, inK, tdiv_nn, tmod_nn, Int.toNat_natCast]; omega) | (simp [AllP, impG, inK, tdiv_nn, tmod_nn]; omega) | ((repeat (first | (focus (first | omega | (intro i hi; first | rfl | (cases Nat.lt_one_iff.1 hi; rfl)) | (simp <;> omega))) | refine ⟨?_, ?_⟩)); done) | (simp only [AllP, impG, inK]; grind))); refine XD.fin (by kernel_rfl) ?_; (repeat (first | refine XK.norm rfl rfl ?_ | ((first | refine XK.rgn hT rfl rfl rfl ?_ ?_ | refine XK.rgnD hT hm rfl rfl rfl (by kernel_rfl) ?_ ?_); focus (first | exact trivial | (simp [AllP, impG]; done) | (simp only [AllP, List.append, List.nil_append, List.cons_append, inK, tdiv_nn, tmod_nn, Int.toNat_natCast]; omega) | (simp [AllP, impG, inK, tdiv_nn, tmod_nn]; omega) | ((repeat (first | (focus (first | omega | (intro i hi; first | rfl | (cases Nat.lt_one_iff.1 hi; rfl)) | (simp <;> omega))) | refine ⟨?_, ?_⟩)); done) | (simp only [AllP, impG, inK]; grind)))))
            rw [hh]
            have fb : ((followR k l l.length).out (i : Int).toNat).bearer = ((followR k l l.length).out i).bearer := rfl
            (repeat (first | refine XK.norm rfl rfl ?_ | ((first | refine XK.rgn hT rfl rfl rfl ?_ ?_ | refine XK.rgnD hT hm rfl rfl rfl (by kernel_rfl) ?_ ?_); focus (first | exact trivial | (simp [AllP, impG]; done) | (simp only [AllP, List.append, List.nil_append, List.cons_append, inK, tdiv_nn, tmod_nn, Int.toNat_natCast]; omega) | (simp [AllP, impG, inK, tdiv_nn, tmod_nn]; omega) | ((repeat (first | (focus (first | omega | (intro i hi; first | rfl | (cases Nat.lt_one_iff.1 hi; rfl)) | (simp <;> omega))) | refine ⟨?_, ?_⟩)); done) | (simp only [AllP, impG, inK]; grind)))))
            rw [fb]
            refine XK.loop (ι := Nat) (fun j => ST.of [(1, intsV l), (2, .ptr 2 0), (5, .c (.bool true)), (6, ocsV k.clauses.length (followR k l l.length).out), (8, .c (.int .i64 i)), (9, .ptr 2145 0), (11, .c (.int .i64 0)),
                (12, .c (.bool ((holdTo k l r f).1 == ((followR k l l.length).out i).bearer || novAny k (clAt k i).role ((followR k l l.length).out i).bearer j))), (13, .c (.int .i64 j))] [(2, .cells 27 (kC k)), (2145, .cells 46 (clC (clAt k i)))] 4000 136 (fun _ => false))
              (fun j => j ≤ k.acts.length) (fun j => k.acts.length - j) 0 (Nat.zero_le _)
              (Weak.of hN rfl rfl rfl (by (repeat' (first | exact rfl | exact AvIs.refl _ | exact trivial | exact fun _ _ => rfl | exact fun _ _ => ⟨rfl, AvIs.refl _⟩ | exact cI (by omega) | exact (cB (show ((holdTo k l r f).1 == ((followR k l l.length).out i).bearer) = ((holdTo k l r f).1 == ((followR k l l.length).out i).bearer || false) by rw [Bool.or_false])) | refine ⟨?_, ?_⟩))) (by (repeat' (first | exact rfl | exact AvIs.refl _ | exact trivial | exact fun _ _ => rfl | exact fun _ _ => ⟨rfl, AvIs.refl _⟩ | refine ⟨?_, ?_⟩)))) fun j hj => ?_
            (repeat (first | refine XK.norm rfl rfl ?_ | ((first | refine XK.rgn hT rfl rfl rfl ?_ ?_ | refine XK.rgnD hT hm rfl rfl rfl (by kernel_rfl) ?_ ?_); focus (first | exact trivial | (simp [AllP, impG]; done) | (simp only [AllP, List.append, List.nil_append, List.cons_append, inK, tdiv_nn, tmod_nn, Int.toNat_natCast]; omega) | (simp [AllP, impG, inK, tdiv_nn, tmod_nn]; omega) | ((repeat (first | (focus (first | omega | (intro i hi; first | rfl | (cases Nat.lt_one_iff.1 hi; rfl)) | (simp <;> omega))) | refine ⟨?_, ?_⟩)); done) | (simp only [AllP, impG, inK]; grind))))); refine XK.cond rfl (fun h8 => ?_) (fun h8 => ?_)
            · have hlt2 : j < k.acts.length := by simpa using h8
              have fa : k.acts.getD (j : Int).toNat default = acAt k j := rfl
              (repeat (first | refine XK.norm rfl rfl ?_ | ((first | refine XK.rgn hT rfl rfl rfl ?_ ?_ | refine XK.rgnD hT hm rfl rfl rfl (by kernel_rfl) ?_ ?_); focus (first | exact trivial | (simp [AllP, impG]; done) | (simp only [AllP, List.append, List.nil_append, List.cons_append, inK, tdiv_nn, tmod_nn, Int.toNat_natCast]; omega) | (simp [AllP, impG, inK, tdiv_nn, tmod_nn]; omega) | ((repeat (first | (focus (first | omega | (intro i hi; first | rfl | (cases Nat.lt_one_iff.1 hi; rfl)) | (simp <;> omega))) | refine ⟨?_, ?_⟩)); done) | (simp only [AllP, impG, inK]; grind)))))
              exact XK.inv ⟨j + 1, hlt2, Weak.of hN rfl rfl rfl (by (repeat' (first | exact rfl | exact AvIs.refl _ | exact trivial | exact fun _ _ => rfl | exact fun _ _ => ⟨rfl, AvIs.refl _⟩ | exact cI (by omega) | exact (cB (show (_ || _ || _) = (_ || (_ || _)) from Bool.or_assoc ..)) | refine ⟨?_, ?_⟩))) (by (repeat' (first | exact rfl | exact AvIs.refl _ | exact trivial | exact fun _ _ => rfl | exact fun _ _ => ⟨rfl, AvIs.refl _⟩ | refine ⟨?_, ?_⟩))), by omega⟩
            · have hje : j = k.acts.length := by
                have : ¬ j < k.acts.length := by simpa using h8
                omega
              subst hje
              (repeat (first | refine XK.norm rfl rfl ?_ | ((first | refine XK.rgn hT rfl rfl rfl ?_ ?_ | refine XK.rgnD hT hm rfl rfl rfl (by kernel_rfl) ?_ ?_); focus (first | exact trivial | (simp [AllP, impG]; done) | (simp only [AllP, List.append, List.nil_append, List.cons_append, inK, tdiv_nn, tmod_nn, Int.toNat_natCast]; omega) | (simp [AllP, impG, inK, tdiv_nn, tmod_nn]; omega) | ((repeat (first | (focus (first | omega | (intro i hi; first | rfl | (cases Nat.lt_one_iff.1 hi; rfl)) | (simp <;> omega))) | refine ⟨?_, ?_⟩)); done) | (simp only [AllP, impG, inK]; grind))))); refine XK.cond rfl (fun h9 => ?_) (fun h9 => ?_)
              · exfalso
                have : ((holdTo k l r f).1 == ((followR k l l.length).out i).bearer || novAny k (clAt k i).role ((followR k l l.length).out i).bearer k.acts.length) = true := by
                  rcases hb3 with h | ⟨s, hs, h⟩
                  · rw [h, er]; simp
                  · rw [novAny_of h _ hs, Bool.or_true]
                rw [this] at h9
                cases h9
              · (repeat (first | refine XK.norm rfl rfl ?_ | ((first | refine XK.rgn hT rfl rfl rfl ?_ ?_ | refine XK.rgnD hT hm rfl rfl rfl (by kernel_rfl) ?_ ?_); focus (first | exact trivial | (simp [AllP, impG]; done) | (simp only [AllP, List.append, List.nil_append, List.cons_append, inK, tdiv_nn, tmod_nn, Int.toNat_natCast]; omega) | (simp [AllP, impG, inK, tdiv_nn, tmod_nn]; omega) | ((repeat (first | (focus (first | omega | (intro i hi; first | rfl | (cases Nat.lt_one_iff.1 hi; rfl)) | (simp <;> omega))) | refine ⟨?_, ?_⟩)); done) | (simp only [AllP, impG, inK]; grind)))))
                exact XK.inv ⟨i + 1, hlt, (Weak.of hN rfl rfl rfl (by (repeat' (first | exact rfl | exact AvIs.refl _ | exact trivial | exact fun _ _ => rfl | exact fun _ _ => ⟨rfl, AvIs.refl _⟩ | refine ⟨?_, ?_⟩))) (by (repeat' (first | exact rfl | exact AvIs.refl _ | exact trivial | exact fun _ _ => rfl | exact fun _ _ => ⟨rfl, AvIs.refl _⟩ | refine ⟨?_, ?_⟩)))), by omega⟩
        · (repeat (first | refine XK.norm rfl rfl ?_ | ((first | refine XK.rgn hT rfl rfl rfl ?_ ?_ | refine XK.rgnD hT hm rfl rfl rfl (by kernel_rfl) ?_ ?_); focus (first | exact trivial | (simp [AllP, impG]; done) | (simp only [AllP, List.append, List.nil_append, List.cons_append, inK, tdiv_nn, tmod_nn, Int.toNat_natCast]; omega) | (simp [AllP, impG, inK, tdiv_nn, tmod_nn]; omega) | ((repeat (first | (focus (first | omega | (intro i hi; first | rfl | (cases Nat.lt_one_iff.1 hi; rfl)) | (simp <;> omega))) | refine ⟨?_, ?_⟩)); done) | (simp only [AllP, impG, inK]; grind)))))
          (first | refine XK.out rfl rfl rfl ?_ | refine XK.outN rfl rfl rfl ?_)
          rfl
end Go.Proofs.Ytmnnjllimphjhaa
