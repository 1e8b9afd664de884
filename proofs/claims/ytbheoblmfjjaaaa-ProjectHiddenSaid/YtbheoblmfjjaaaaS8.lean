import Derived.Test.YtbheoblmfjjaaaaS7
section
/- Contracts: package project: who sees an act. -/
namespace Go.Proofs.Ytbheoblmfjjaaaa
open Go.Eng
set_option maxRecDepth 10000
set_option linter.unusedSimpArgs false
set_option linter.unusedVariables false
def seesB (k : K) (hold : Nat → Int) (p : Int) (a : Nat) : Bool :=
  if ((acAt k a).kind != 1 || (acAt k a).to == -1 || hold (acAt k a).to.toNat == p) = true then true else (acAt k a).role != -1 && hold (acAt k a).role.toNat == p
theorem sees_ok (k : K) (hk : KFacts k) (s : St) (hs : s.holders.length = k.holders.length) (p : Int) (a : Nat) (ha : a < k.acts.length) : Does Try.prog 72 [kV k, stV s, .c (.int .i64 p), .c (.int .i64 a)] (.c (.bool (seesB k s.wk.hold p a))) := by
  refine Does.mk (fun _ => false) TT_ok Try.func72 rfl (by kernel_rfl) Try.ntmps72 rfl rfl fun E hT hE hN hR => ?_
  have hm : E.P.follows .mixedOrders = true := by rw [hE]; kernel_rfl
  have fc : k.acts.getD (a : Int).toNat default = acAt k a := rfl
  have hr := actF (hk.act a ha)
  unfold seesB
  (repeat (first | refine XK.norm rfl rfl ?_ | refine XK.rgnA hT rfl rfl rfl ?_ | refine XK.rgnB hT hm rfl rfl rfl ?_))
  rw [fc]
  generalize acAt k a = x at *
  have hto : x.kind = 1 → x.to ≠ -1 → 0 ≤ x.to ∧ x.to < s.holders.length := by omega
  have hro : x.role ≠ -1 → 0 ≤ x.role ∧ x.role < s.holders.length := by omega
  (repeat (first | refine XK.norm rfl rfl ?_ | refine XK.rgnA hT rfl rfl rfl ?_ | refine XK.rgnB hT hm rfl rfl rfl ?_)); refine XK.cond rfl (fun h1 => ?_) (fun h1 => ?_)
  · rw [if_pos (show (x.kind != 1 || x.to == -1 || s.wk.hold x.to.toNat == p) = true from h1)]
    (repeat (first | refine XK.norm rfl rfl ?_ | refine XK.rgnA hT rfl rfl rfl ?_ | refine XK.rgnB hT hm rfl rfl rfl ?_))
    (first | refine XK.out rfl rfl rfl ?_ | refine XK.outN rfl rfl rfl ?_)
    rfl
  · rw [if_neg (show ¬ (x.kind != 1 || x.to == -1 || s.wk.hold x.to.toNat == p) = true by rw [show (x.kind != 1 || x.to == -1 || s.wk.hold x.to.toNat == p) = false from h1]; simp)]
    (repeat (first | refine XK.norm rfl rfl ?_ | refine XK.rgnA hT rfl rfl rfl ?_ | refine XK.rgnB hT hm rfl rfl rfl ?_))
    (first | refine XK.out rfl rfl rfl ?_ | refine XK.outN rfl rfl rfl ?_)
    rfl
noncomputable def SeesR (k : K) (s : St) (p a : Int) : Bool := validS k s && decide (0 ≤ p) && decide (p < k.parties) && decide (0 ≤ a) && decide (a < k.acts.length) && seesB k s.wk.hold p a.toNat
theorem anyP {l : List Int} {p : Int → Bool} : l.any p = true ↔ ∃ i, i < l.length ∧ p (l.getD i default) = true := by
  rw [List.any_eq_true]
  constructor
  · rintro ⟨x, hx, h⟩
    obtain ⟨i, hi, rfl⟩ := List.getElem_of_mem hx
    exact ⟨i, hi, by simpa only [List.getD_eq_getElem?_getD, List.getElem?_eq_getElem hi, Option.getD_some] using h⟩
  · rintro ⟨i, hi, h⟩
    refine ⟨_, List.getElem_mem hi, ?_⟩
    simpa only [List.getD_eq_getElem?_getD, List.getElem?_eq_getElem hi, Option.getD_some] using h
def idxP (l : List Int) (p : Int → Bool) : Int := match (List.range l.length).find? (fun i => p (l.getD i default)) with
  | some i => (i : Int)
  | none => -1
theorem idxP_some {l : List Int} {p : Int → Bool} {i : Nat} (hi : i < l.length) (h : p (l.getD i default) = true) (h2 : ∀ j, j < i → p (l.getD j default) = false) : idxP l p = i := by
  have : (List.range l.length).find? (fun i => p (l.getD i default)) = some i := by
    rw [List.find?_range_eq_some]
    exact ⟨h, by simpa using hi, fun j hj => by rw [h2 j hj]; rfl⟩
  unfold idxP
  rw [this]
theorem idxP_none {l : List Int} {p : Int → Bool} (h2 : ∀ j, j < l.length → p (l.getD j default) = false) : idxP l p = -1 := by
  have : (List.range l.length).find? (fun i => p (l.getD i default)) = none := by
    rw [List.find?_range_eq_none]
    exact fun j hj => by rw [h2 j hj]; rfl
  unfold idxP
  rw [this]
theorem idxP_ge {l : List Int} {p : Int → Bool} : 0 ≤ idxP l p ↔ l.any p = true := by
  rw [anyP]
  unfold idxP
  split
  · rename_i i h
    have h1 := List.find?_some h
    have h2 := List.mem_of_find?_eq_some h
    simp only [List.mem_range] at h2
    exact ⟨fun _ => ⟨i, h2, h1⟩, fun _ => by omega⟩
  · rename_i h
    rw [List.find?_range_eq_none] at h
    refine ⟨fun h2 => by omega, ?_⟩
    rintro ⟨i, h1, h2⟩
    have := h i h1
    rw [h2] at this; cases this
theorem indexJ_ok (k : K) (l : List Int) (p : Int → Bool) (hp : ∀ i, i < l.length → Does Try.prog 67 [.c (.int .i64 (l.getD i default)), .rptr (kC k)] (.c (.bool (p (l.getD i default))))) :
    Does Try.prog 93 [intsV l, .fn (.func 67) [] [.rptr (kC k)]] (.c (.int .i64 (idxP l p))) := by
  refine Does.mk (fun _ => false) TT_ok Try.func93 rfl (by kernel_rfl) Try.ntmps93 rfl rfl fun E hT hE hN hR => ?_
  have hm : E.P.follows .mixedOrders = true := by rw [hE]; kernel_rfl
  refine XK.fact (Sat.rs_len (j := 0) rfl) fun hlen => ?_
  have hm' : l.length ≤ 9223372036854775807 := hlen.1
  (repeat (first | refine XK.norm rfl rfl ?_ | refine XK.rgnA hT rfl rfl rfl ?_ | refine XK.rgnB hT hm rfl rfl rfl ?_))
  refine XK.loop (ι := Nat) (fun i => ST.of [(0, intsV l), (1, .fn (.func 67) [] [.rptr (kC k)]), (7, .c (.int .i64 l.length)), (8, .c (.int .i64 i))] [] 1000 19 (fun _ => false))
    (fun i => i ≤ l.length ∧ ∀ j, j < i → p (l.getD j default) = false) (fun i => l.length - i) 0 ⟨Nat.zero_le _, fun j hj => absurd hj (Nat.not_lt_zero _)⟩
    (Weak.of hN rfl rfl rfl (by (repeat' (first | exact rfl | exact AvIs.refl _ | exact trivial | exact fun _ _ => rfl | exact fun _ _ => ⟨rfl, AvIs.refl _⟩ | refine ⟨?_, ?_⟩))) (by (repeat' (first | exact rfl | exact AvIs.refl _ | exact trivial | exact fun _ _ => rfl | exact fun _ _ => ⟨rfl, AvIs.refl _⟩ | refine ⟨?_, ?_⟩)))) fun i hi => ?_
  obtain ⟨hi1, hi2⟩ := hi
  (repeat (first | refine XK.norm rfl rfl ?_ | refine XK.rgnA hT rfl rfl rfl ?_ | refine XK.rgnB hT hm rfl rfl rfl ?_)); refine XK.cond rfl (fun hlt => ?_) (fun hlt => ?_) <;> (try simp at hlt)
  · have hpi := hp i hlt
    have f1 : l.getD (i : Int).toNat default = l.getD i default := rfl
    (repeat (first | refine XK.norm rfl rfl ?_ | refine XK.rgnA hT rfl rfl rfl ?_ | refine XK.rgnB hT hm rfl rfl rfl ?_)); refine XK.region ?_; refine XL.goA hT rfl rfl rfl rfl ?_
    rw [f1]
    refine XL.callLA hE rfl rfl rfl rfl trivial rfl (hpi) rfl ?_
    refine XL.goA hT rfl rfl rfl rfl ?_; refine XL.fin ?_; (repeat (first | refine XK.norm rfl rfl ?_ | refine XK.rgnA hT rfl rfl rfl ?_ | refine XK.rgnB hT hm rfl rfl rfl ?_))
    (repeat (first | refine XK.norm rfl rfl ?_ | refine XK.rgnA hT rfl rfl rfl ?_ | refine XK.rgnB hT hm rfl rfl rfl ?_)); refine XK.cond rfl (fun h1 => ?_) (fun h1 => ?_)
    · (repeat (first | refine XK.norm rfl rfl ?_ | refine XK.rgnA hT rfl rfl rfl ?_ | refine XK.rgnB hT hm rfl rfl rfl ?_))
      (first | refine XK.out rfl rfl rfl ?_ | refine XK.outN rfl rfl rfl ?_)
      rw [idxP_some hlt h1 hi2]
    · (repeat (first | refine XK.norm rfl rfl ?_ | refine XK.rgnA hT rfl rfl rfl ?_ | refine XK.rgnB hT hm rfl rfl rfl ?_))
      refine XK.inv ⟨i + 1, ⟨hlt, fun j hj => ?_⟩, (Weak.of hN rfl rfl rfl (by (repeat' (first | exact rfl | exact AvIs.refl _ | exact trivial | exact fun _ _ => rfl | exact fun _ _ => ⟨rfl, AvIs.refl _⟩ | refine ⟨?_, ?_⟩))) (by (repeat' (first | exact rfl | exact AvIs.refl _ | exact trivial | exact fun _ _ => rfl | exact fun _ _ => ⟨rfl, AvIs.refl _⟩ | refine ⟨?_, ?_⟩)))), by omega⟩
      by_cases h : j = i
      · subst h; exact h1
      · exact hi2 j (by omega)
  · (repeat (first | refine XK.norm rfl rfl ?_ | refine XK.rgnA hT rfl rfl rfl ?_ | refine XK.rgnB hT hm rfl rfl rfl ?_))
    (first | refine XK.out rfl rfl rfl ?_ | refine XK.outN rfl rfl rfl ?_)
    rw [idxP_none fun j hj => hi2 j (by omega)]
theorem containsJ_ok (k : K) (l : List Int) (p : Int → Bool) (hp : ∀ i, i < l.length → Does Try.prog 67 [.c (.int .i64 (l.getD i default)), .rptr (kC k)] (.c (.bool (p (l.getD i default))))) :
    Does Try.prog 68 [intsV l, .fn (.func 67) [] [.rptr (kC k)]] (.c (.bool (l.any p))) := by
  refine Does.mk (fun _ => false) TT_ok Try.func68 rfl (by kernel_rfl) Try.ntmps68 rfl rfl fun E hT hE hN hR => ?_
  have hm : E.P.follows .mixedOrders = true := by rw [hE]; kernel_rfl
  (repeat (first | refine XK.norm rfl rfl ?_ | refine XK.rgnA hT rfl rfl rfl ?_ | refine XK.rgnB hT hm rfl rfl rfl ?_)); refine XK.region ?_; refine XL.goA hT rfl rfl rfl rfl ?_
  refine XL.callKA hE rfl rfl rfl rfl trivial rfl rfl (indexJ_ok k l p hp) ?_
  refine XL.goA hT rfl rfl rfl rfl ?_; refine XL.fin ?_; (repeat (first | refine XK.norm rfl rfl ?_ | refine XK.rgnA hT rfl rfl rfl ?_ | refine XK.rgnB hT hm rfl rfl rfl ?_))
  (first | refine XK.out rfl rfl rfl ?_ | refine XK.outN rfl rfl rfl ?_)
  refine cB ?_
  rw [Bool.eq_iff_iff, decide_eq_true_eq]
  exact idxP_ge
theorem indexH_ok (k : K) (s : St) (a : Int) (l : List Int) (p : Int → Bool) (hp : ∀ i, i < l.length → Does Try.prog 71 [.c (.int .i64 (l.getD i default)), .rptr (kC k), .rptr (stC s), .rptr [.c (.int .i64 a)]] (.c (.bool (p (l.getD i default))))) :
    Does Try.prog 93 [intsV l, .fn (.func 71) [] [.rptr (kC k), .rptr (stC s), .rptr [.c (.int .i64 a)]]] (.c (.int .i64 (idxP l p))) := by
  refine Does.mk (fun _ => false) TT_ok Try.func93 rfl (by kernel_rfl) Try.ntmps93 rfl rfl fun E hT hE hN hR => ?_
  have hm : E.P.follows .mixedOrders = true := by rw [hE]; kernel_rfl
  refine XK.fact (Sat.rs_len (j := 0) rfl) fun hlen => ?_
  have hm' : l.length ≤ 9223372036854775807 := hlen.1
  (repeat (first | refine XK.norm rfl rfl ?_ | refine XK.rgnA hT rfl rfl rfl ?_ | refine XK.rgnB hT hm rfl rfl rfl ?_))
  refine XK.loop (ι := Nat) (fun i => ST.of [(0, intsV l), (1, .fn (.func 71) [] [.rptr (kC k), .rptr (stC s), .rptr [.c (.int .i64 a)]]), (7, .c (.int .i64 l.length)), (8, .c (.int .i64 i))] [] 1000 19 (fun _ => false))
    (fun i => i ≤ l.length ∧ ∀ j, j < i → p (l.getD j default) = false) (fun i => l.length - i) 0 ⟨Nat.zero_le _, fun j hj => absurd hj (Nat.not_lt_zero _)⟩
    (Weak.of hN rfl rfl rfl (by (repeat' (first | exact rfl | exact AvIs.refl _ | exact trivial | exact fun _ _ => rfl | exact fun _ _ => ⟨rfl, AvIs.refl _⟩ | refine ⟨?_, ?_⟩))) (by (repeat' (first | exact rfl | exact AvIs.refl _ | exact trivial | exact fun _ _ => rfl | exact fun _ _ => ⟨rfl, AvIs.refl _⟩ | refine ⟨?_, ?_⟩)))) fun i hi => ?_
  obtain ⟨hi1, hi2⟩ := hi
  (repeat (first | refine XK.norm rfl rfl ?_ | refine XK.rgnA hT rfl rfl rfl ?_ | refine XK.rgnB hT hm rfl rfl rfl ?_)); refine XK.cond rfl (fun hlt => ?_) (fun hlt => ?_) <;> (try simp at hlt)
  · have hpi := hp i hlt
    have f1 : l.getD (i : Int).toNat default = l.getD i default := rfl
    (repeat (first | refine XK.norm rfl rfl ?_ | refine XK.rgnA hT rfl rfl rfl ?_ | refine XK.rgnB hT hm rfl rfl rfl ?_)); refine XK.region ?_; refine XL.goA hT rfl rfl rfl rfl ?_
    rw [f1]
    refine XL.callLA hE rfl rfl rfl rfl trivial rfl (hpi) rfl ?_
    refine XL.goA hT rfl rfl rfl rfl ?_; refine XL.fin ?_; (repeat (first | refine XK.norm rfl rfl ?_ | refine XK.rgnA hT rfl rfl rfl ?_ | refine XK.rgnB hT hm rfl rfl rfl ?_))
    (repeat (first | refine XK.norm rfl rfl ?_ | refine XK.rgnA hT rfl rfl rfl ?_ | refine XK.rgnB hT hm rfl rfl rfl ?_)); refine XK.cond rfl (fun h1 => ?_) (fun h1 => ?_)
    · (repeat (first | refine XK.norm rfl rfl ?_ | refine XK.rgnA hT rfl rfl rfl ?_ | refine XK.rgnB hT hm rfl rfl rfl ?_))
      (first | refine XK.out rfl rfl rfl ?_ | refine XK.outN rfl rfl rfl ?_)
      rw [idxP_some hlt h1 hi2]
    · (repeat (first | refine XK.norm rfl rfl ?_ | refine XK.rgnA hT rfl rfl rfl ?_ | refine XK.rgnB hT hm rfl rfl rfl ?_))
      refine XK.inv ⟨i + 1, ⟨hlt, fun j hj => ?_⟩, (Weak.of hN rfl rfl rfl (by (repeat' (first | exact rfl | exact AvIs.refl _ | exact trivial | exact fun _ _ => rfl | exact fun _ _ => ⟨rfl, AvIs.refl _⟩ | refine ⟨?_, ?_⟩))) (by (repeat' (first | exact rfl | exact AvIs.refl _ | exact trivial | exact fun _ _ => rfl | exact fun _ _ => ⟨rfl, AvIs.refl _⟩ | refine ⟨?_, ?_⟩)))), by omega⟩
      by_cases h : j = i
      · subst h; exact h1
      · exact hi2 j (by omega)
  · (repeat (first | refine XK.norm rfl rfl ?_ | refine XK.rgnA hT rfl rfl rfl ?_ | refine XK.rgnB hT hm rfl rfl rfl ?_))
    (first | refine XK.out rfl rfl rfl ?_ | refine XK.outN rfl rfl rfl ?_)
    rw [idxP_none fun j hj => hi2 j (by omega)]
theorem containsH_ok (k : K) (s : St) (a : Int) (l : List Int) (p : Int → Bool) (hp : ∀ i, i < l.length → Does Try.prog 71 [.c (.int .i64 (l.getD i default)), .rptr (kC k), .rptr (stC s), .rptr [.c (.int .i64 a)]] (.c (.bool (p (l.getD i default))))) :
    Does Try.prog 68 [intsV l, .fn (.func 71) [] [.rptr (kC k), .rptr (stC s), .rptr [.c (.int .i64 a)]]] (.c (.bool (l.any p))) := by
  refine Does.mk (fun _ => false) TT_ok Try.func68 rfl (by kernel_rfl) Try.ntmps68 rfl rfl fun E hT hE hN hR => ?_
  have hm : E.P.follows .mixedOrders = true := by rw [hE]; kernel_rfl
  (repeat (first | refine XK.norm rfl rfl ?_ | refine XK.rgnA hT rfl rfl rfl ?_ | refine XK.rgnB hT hm rfl rfl rfl ?_)); refine XK.region ?_; refine XL.goA hT rfl rfl rfl rfl ?_
  refine XL.callKA hE rfl rfl rfl rfl trivial rfl rfl (indexH_ok k s a l p hp) ?_
  refine XL.goA hT rfl rfl rfl rfl ?_; refine XL.fin ?_; (repeat (first | refine XK.norm rfl rfl ?_ | refine XK.rgnA hT rfl rfl rfl ?_ | refine XK.rgnB hT hm rfl rfl rfl ?_))
  (first | refine XK.out rfl rfl rfl ?_ | refine XK.outN rfl rfl rfl ?_)
  refine cB ?_
  rw [Bool.eq_iff_iff, decide_eq_true_eq]
  exact idxP_ge
end Go.Proofs.Ytbheoblmfjjaaaa
end
section
/- Contracts: package project: Sees and the functions that Joint makes. -/
namespace Go.Proofs.Ytbheoblmfjjaaaa
open Go.Eng
set_option maxRecDepth 10000
set_option linter.unusedSimpArgs false
set_option linter.unusedVariables false
theorem sees2_ok (k : K) (hk : kW k) (s : St) (p a : Int) : Does Try.prog 42 [kV k, stV s, .c (.int .i64 p), .c (.int .i64 a)] (.c (.bool (SeesR k s p a))) := by
  refine Does.mk (fun _ => false) TT_ok Try.func42 rfl (by kernel_rfl) Try.ntmps42 rfl rfl fun E hT hE hN hR => ?_
  have hm : E.P.follows .mixedOrders = true := by rw [hE]; kernel_rfl
  (repeat (first | refine XK.norm rfl rfl ?_ | refine XK.rgnA hT rfl rfl rfl ?_ | refine XK.rgnB hT hm rfl rfl rfl ?_)); refine XK.region ?_; refine XL.goA hT rfl rfl rfl rfl ?_
  refine XL.callLA hE rfl rfl rfl rfl trivial rfl (validS_ok k hk s) rfl ?_
  refine XL.goA hT rfl rfl rfl rfl ?_
  have hc : (validS k s && decide (0 ≤ p) && decide (p < k.parties) && decide (0 ≤ a) && decide (a < k.acts.length)) = true → Does Try.prog 72 [kV k, stV s, .c (.int .i64 p), .c (.int .i64 a)] (.c (.bool (seesB k s.wk.hold p a.toNat))) := fun h => by
    simp only [Bool.and_eq_true, decide_eq_true_eq] at h
    have hl := validS_len h.1.1.1.1
    have hF := (show kOk k from ⟨hk, hl.1⟩).facts
    have := sees_ok k hF s hl.2.1 p a.toNat (by omega)
    rwa [Int.toNat_of_nonneg (by omega)] at this
  refine XL.callLG hE rfl rfl rfl rfl rfl rfl rfl (by first | (simp [AllP, impG]; done) | (simp only [AllP, impG]; grind)) rfl (fun hgd => ⟨hc hgd, (by (repeat' (first | exact rfl | exact AvIs.refl _ | exact trivial | (intro i hi; rfl) | exact fun _ _ => ⟨rfl, AvIs.refl _⟩ | (intro i hi; rcases i with _ | _ | _ | _ | _ | _ | _ | i <;> first | rfl | exact absurd hi (by simp; done) | (simp at hi; omega)) | refine ⟨?_, ?_⟩)))⟩) rfl ?_
  refine XL.goA hT rfl rfl rfl rfl ?_; refine XL.fin ?_; (repeat (first | refine XK.norm rfl rfl ?_ | refine XK.rgnA hT rfl rfl rfl ?_ | refine XK.rgnB hT hm rfl rfl rfl ?_))
  (first | refine XK.out rfl rfl rfl ?_ | refine XK.outN rfl rfl rfl ?_)
  rfl
def strB (k : K) (p : Int) : Bool := decide (p < 0) || decide (k.parties ≤ p)
theorem str_ok (k : K) (p : Int) : Does Try.prog 67 [.c (.int .i64 p), .rptr (kC k)] (.c (.bool (strB k p))) := by
  refine Does.mk (fun _ => false) TT_ok Try.func67 rfl (by kernel_rfl) Try.ntmps67 rfl rfl fun E hT hE hN hR => ?_
  have hm : E.P.follows .mixedOrders = true := by rw [hE]; kernel_rfl
  (repeat (first | refine XK.norm rfl rfl ?_ | refine XK.rgnA hT rfl rfl rfl ?_ | refine XK.rgnB hT hm rfl rfl rfl ?_))
  (first | refine XK.out rfl rfl rfl ?_ | refine XK.outN rfl rfl rfl ?_)
  rfl
theorem j21_ok (k : K) (hk : KFacts k) (s : St) (hs : s.holders.length = k.holders.length) (p : Int) (a : Nat) (ha : a < k.acts.length) : Does Try.prog 71 [.c (.int .i64 p), .rptr (kC k), .rptr (stC s), .rptr [.c (.int .i64 a)]] (.c (.bool (seesB k s.wk.hold p a))) := by
  refine Does.mk (fun _ => false) TT_ok Try.func71 rfl (by kernel_rfl) Try.ntmps71 rfl rfl fun E hT hE hN hR => ?_
  have hm : E.P.follows .mixedOrders = true := by rw [hE]; kernel_rfl
  (repeat (first | refine XK.norm rfl rfl ?_ | refine XK.rgnA hT rfl rfl rfl ?_ | refine XK.rgnB hT hm rfl rfl rfl ?_)); refine XK.region ?_; refine XL.goA hT rfl rfl rfl rfl ?_
  refine XL.callKA hE rfl rfl rfl rfl trivial rfl rfl (sees_ok k hk s hs p a ha) ?_
  refine XL.goA hT rfl rfl rfl rfl ?_; refine XL.fin ?_; (repeat (first | refine XK.norm rfl rfl ?_ | refine XK.rgnA hT rfl rfl rfl ?_ | refine XK.rgnB hT hm rfl rfl rfl ?_))
  (first | refine XK.out rfl rfl rfl ?_ | refine XK.outN rfl rfl rfl ?_)
  rfl
def someB (k : K) (ps : List Int) (s : St) (a : Nat) : Bool := ps.any (fun p => seesB k s.wk.hold p a)
theorem j2_ok (k : K) (hk : KFacts k) (ps : List Int) (s : St) (hs : s.holders.length = k.holders.length) (a : Nat) (ha : a < k.acts.length) : Does Try.prog 70 [stV s, .c (.int .i64 a), .rptr [intsV ps], .rptr (kC k)] (.c (.bool (someB k ps s a))) := by
  refine Does.mk (fun _ => false) TT_ok Try.func70 rfl (by kernel_rfl) Try.ntmps70 rfl rfl fun E hT hE hN hR => ?_
  have hm : E.P.follows .mixedOrders = true := by rw [hE]; kernel_rfl
  iterate 2 (first | refine XK.norm rfl rfl ?_ | refine XK.rgnA hT rfl rfl rfl ?_ | refine XK.rgnB hT hm rfl rfl rfl ?_)
  refine XK.weak (Weak.trans (Weak.frozenC (k := 4) hN rfl rfl rfl) (Weak.trans (Weak.frozenC (k := 5) hN rfl rfl rfl) (Weak.of (L := [(2, .rptr [intsV ps]), (3, .rptr (kC k)), (4, .rptr (stC s)), (5, .rptr [.c (.int .i64 a)])]) (O := []) (nx := 1000) (nt := 10) (md := fun _ => false) hN rfl rfl rfl (by (repeat' (first | exact rfl | exact AvIs.refl _ | exact trivial | exact fun _ _ => rfl | exact fun _ _ => ⟨rfl, AvIs.refl _⟩ | refine ⟨?_, ?_⟩))) (by (repeat' (first | exact rfl | exact AvIs.refl _ | exact trivial | exact fun _ _ => rfl | exact fun _ _ => ⟨rfl, AvIs.refl _⟩ | refine ⟨?_, ?_⟩)))))) ?_
  (repeat (first | refine XK.norm rfl rfl ?_ | refine XK.rgnA hT rfl rfl rfl ?_ | refine XK.rgnB hT hm rfl rfl rfl ?_)); refine XK.region ?_; refine XL.goA hT rfl rfl rfl rfl ?_
  refine XL.callKA hE rfl rfl rfl rfl trivial rfl rfl (containsH_ok k s a ps (fun p => seesB k s.wk.hold p a) (fun i hi => j21_ok k hk s hs _ a ha)) ?_
  refine XL.goA hT rfl rfl rfl rfl ?_; refine XL.fin ?_; (repeat (first | refine XK.norm rfl rfl ?_ | refine XK.rgnA hT rfl rfl rfl ?_ | refine XK.rgnB hT hm rfl rfl rfl ?_))
  (first | refine XK.out rfl rfl rfl ?_ | refine XK.outN rfl rfl rfl ?_)
  rfl
end Go.Proofs.Ytbheoblmfjjaaaa
end
section
/- Contracts: package project: run and seen. -/
namespace Go.Proofs.Ytbheoblmfjjaaaa
open Go.Eng
set_option maxRecDepth 10000
set_option linter.unusedSimpArgs false
set_option linter.unusedVariables false
/-- The state before a step, what was seen so far, the error. -/
abbrev Pj := St × List Int × Int
noncomputable def pjF (k : K) (ps : List Int) (p : Pj) (z : Int) : Pj :=
  if (stepS k p.1 z).2 ≠ 0 then (p.1, p.2.1, (stepS k p.1 z).2) else ((stepS k p.1 z).1, if (z == -1 || someB k ps p.1 z.toNat) = true then p.2.1 ++ [z] else p.2.1, 0)
noncomputable def pjT (k : K) (ps : List Int) (l : List Int) : Nat → Pj
  | 0 => ((startS k).1, [], 0)
  | i + 1 => if (pjT k ps l i).2.2 ≠ 0 then pjT k ps l i else pjF k ps (pjT k ps l i) (l.getD i default)
theorem pjT_stop {k : K} {ps l : List Int} {i : Nat} (h : (pjT k ps l i).2.2 ≠ 0) : ∀ j, i ≤ j → pjT k ps l j = pjT k ps l i := by
  intro j hj
  induction j with
  | zero => obtain rfl : i = 0 := by omega
            rfl
  | succ j ih =>
    by_cases e : i = j + 1
    · subst e; rfl
    · have := ih (by omega)
      rw [pjT, this, if_pos h]
theorem pjT_len (k : K) (ps l : List Int) : ∀ i, (pjT k ps l i).2.1.length ≤ i
  | 0 => Nat.le_refl _
  | i + 1 => by
    have ih := pjT_len k ps l i
    rw [pjT]
    split
    · omega
    · unfold pjF
      split
      · show (pjT k ps l i).2.1.length ≤ _
        omega
      · show (if _ then _ else _ : List Int).length ≤ _
        split
        · simp; omega
        · omega
def pjO (r : List Int) (e : Int) : List Ob := [.cells 49 [.vec 2 (2 * r.length)], .vec 3 1 (2 * r.length) r.length (fun i => [.c (.int .i64 (r.getD i default))]), .cells 49 [.c (.slice none 0 0)], .cells 38 [.c (.int .i64 e)]]
def jfnV (k : K) (ps : List Int) : AV := .fn (.func 70) [] [.rptr [intsV ps], .rptr (kC k)]
def pjCs (k : K) (ps : List Int) : List AV := frL 36 [(5, .rptr [jfnV k ps]), (6, .ptr 3 0), (7, .ptr 4 0), (8, .ptr 1 0)]
def momV (z : Int) (s : St) : AV := .agg (.c (.int .i64 z) :: stC s)
theorem run_ok (k : K) (l : List Int) : Does Try.prog 94 [kV k, intsV l] (.fn (.func 112) [] [.rptr (kC k), .rptr [intsV l]]) := by
  refine Does.mk (fun _ => false) TT_ok Try.func94 rfl (by kernel_rfl) Try.ntmps94 rfl rfl fun E hT hE hN hR => ?_
  have hm : E.P.follows .mixedOrders = true := by rw [hE]; kernel_rfl
  (repeat (first | refine XK.norm rfl rfl ?_ | refine XK.rgnA hT rfl rfl rfl ?_ | refine XK.rgnB hT hm rfl rfl rfl ?_))
  refine XK.weak (Weak.trans (Weak.frozenC (k := 2) hN rfl rfl rfl) (Weak.frozenC (k := 3) hN rfl rfl rfl)) ?_
  (first | refine XK.out rfl rfl rfl ?_ | refine XK.outN rfl rfl rfl ?_)
  rfl
theorem run1_ok (k : K) (hk : kW k) (h0 : (startS k).2 = 0) (ps l : List Int) (hl : l.length ≤ 4000) (L b : Nat) (mk : LoopState → Option Code → Array Value → Obj) (mkE : Array Value → Obj)
    (hY : ∀ i, i < l.length → (pjT k ps l i).2.2 = 0 → DoesR Try.prog L [momV (l.getD i default) (pjT k ps l i).1, .c (.int .i64 (stepS k (pjT k ps l i).1 (l.getD i default)).2)] (.lrec (mk .ready none) b (pjCs k ps) :: pjO (pjT k ps l i).2.1 (pjT k ps l i).2.2)
      (.c (.bool (decide ((pjT k ps l (i + 1)).2.2 = 0)))) (.lrec (if (pjT k ps l (i + 1)).2.2 = 0 then mk .ready none else mk .done (some .ret)) b (pjCs k ps) :: pjO (pjT k ps l (i + 1)).2.1 (pjT k ps l (i + 1)).2.2))
    (hE : (if (pjT k ps l l.length).2.2 = 0 then mk .ready none else mk .done (some .ret)) = mkE) :
    DoesM Try.prog 112 [.fn (.yield L) [] [], .rptr (kC k), .rptr [intsV l]] (.lrec (mk .ready none) b (pjCs k ps) :: pjO [] 0) (.tup []) (.lrec mkE b (pjCs k ps) :: pjO (pjT k ps l l.length).2.1 (pjT k ps l l.length).2.2) := by
  subst hE
  refine DoesM.mk (fun _ => false) 100 TT_ok Try.func112 rfl (by kernel_rfl) Try.ntmps112 rfl rfl rfl fun E hT hE hN hR => ?_
  have hm : E.P.follows .mixedOrders = true := by rw [hE]; kernel_rfl
  (repeat (first | refine XK.norm rfl rfl ?_ | refine XK.rgnA hT rfl rfl rfl ?_ | refine XK.rgnB hT hm rfl rfl rfl ?_)); refine XK.region ?_; refine XL.goA hT rfl rfl rfl rfl ?_
  refine XL.callKA hE rfl rfl rfl rfl trivial rfl rfl (startS_ok k hk) ?_
  refine XL.goA hT rfl rfl rfl rfl ?_; refine XL.fin ?_; (repeat (first | refine XK.norm rfl rfl ?_ | refine XK.rgnA hT rfl rfl rfl ?_ | refine XK.rgnB hT hm rfl rfl rfl ?_))
  (repeat (first | refine XK.norm rfl rfl ?_ | refine XK.rgnA hT rfl rfl rfl ?_ | refine XK.rgnB hT hm rfl rfl rfl ?_)); refine XK.cond rfl (fun h1 => ?_) (fun h1 => ?_) <;> (try simp at h1)
  · exact absurd h0 h1
  · (repeat (first | refine XK.norm rfl rfl ?_ | refine XK.rgnA hT rfl rfl rfl ?_ | refine XK.rgnB hT hm rfl rfl rfl ?_))
    refine XK.loop (ι := Nat) (fun i => ST.of [(0, .fn (.yield L) [] []), (1, .rptr (kC k)), (4, .ptr 104 0), (21, intsV l), (22, .c (.int .i64 l.length)), (23, .c (.int .i64 i))]
        [(0, .lrec (mk .ready none) b (pjCs k ps)), (104, .cells 57 (stC (pjT k ps l i).1)), (1, .cells 49 [.vec 2 (2 * (pjT k ps l i).2.1.length)]), (2, .vec 3 1 (2 * (pjT k ps l i).2.1.length) (pjT k ps l i).2.1.length (fun j => [.c (.int .i64 ((pjT k ps l i).2.1.getD j default))])), (3, .cells 49 [.c (.slice none 0 0)]), (4, .cells 38 [.c (.int .i64 (pjT k ps l i).2.2)])] 1000 47 (fun _ => false))
      (fun i => i ≤ l.length ∧ (pjT k ps l i).2.2 = 0) (fun i => l.length - i) 0 ⟨Nat.zero_le _, rfl⟩
      (Weak.of hN rfl rfl rfl (by (repeat' (first | exact rfl | exact AvIs.refl _ | exact trivial | exact fun _ _ => rfl | exact fun _ _ => ⟨rfl, AvIs.refl _⟩ | refine ⟨?_, ?_⟩))) (by (repeat' (first | exact rfl | exact AvIs.refl _ | exact trivial | exact fun _ _ => rfl | exact fun _ _ => ⟨rfl, AvIs.refl _⟩ | refine ⟨?_, ?_⟩)))) fun i hi => ?_
    obtain ⟨hi, he⟩ := hi
    (repeat (first | refine XK.norm rfl rfl ?_ | refine XK.rgnA hT rfl rfl rfl ?_ | refine XK.rgnB hT hm rfl rfl rfl ?_)); refine XK.cond rfl (fun hlt => ?_) (fun hlt => ?_) <;> (try simp at hlt)
    · have hYi := hY i hlt he
      have hT1 : pjT k ps l (i + 1) = pjF k ps (pjT k ps l i) (l.getD i default) := by rw [pjT, if_neg (by simpa using he)]
      have hstop := fun h => pjT_stop (k := k) (ps := ps) (l := l) (i := i + 1) h l.length hlt
      have f1 : l.getD (i : Int).toNat default = l.getD i default := rfl
      have hT2 : ((pjT k ps l (i + 1)).2.2 = 0 ↔ (stepS k (pjT k ps l i).1 (l.getD i default)).2 = 0) ∧ ((stepS k (pjT k ps l i).1 (l.getD i default)).2 = 0 → (pjT k ps l (i + 1)).1 = (stepS k (pjT k ps l i).1 (l.getD i default)).1) := by
        rw [hT1]
        unfold pjF
        split
        · rename_i h
          exact ⟨Iff.rfl, fun h2 => absurd h2 h⟩
        · rename_i h
          exact ⟨⟨fun _ => by simpa using h, fun _ => rfl⟩, fun _ => rfl⟩
      have hst := stepS_ok k hk (pjT k ps l i).1 (l.getD i default)
      generalize h2 : pjT k ps l (i + 1) = t2 at *
      generalize h1 : pjT k ps l i = t1 at *
      generalize l.getD i default = z at *
      generalize stepS k t1.1 z = q at *
      clear hT1
      obtain ⟨s, r, e⟩ := t1
      dsimp only at *
      subst he
      (repeat (first | refine XK.norm rfl rfl ?_ | refine XK.rgnA hT rfl rfl rfl ?_ | refine XK.rgnB hT hm rfl rfl rfl ?_))
      rw [f1]
      (repeat (first | refine XK.norm rfl rfl ?_ | refine XK.rgnA hT rfl rfl rfl ?_ | refine XK.rgnB hT hm rfl rfl rfl ?_)); refine XK.region ?_; refine XL.goA hT rfl rfl rfl rfl ?_
      refine XL.callKA hE rfl rfl rfl rfl trivial rfl rfl (hst) ?_
      refine XL.goA hT rfl rfl rfl rfl ?_; refine XL.fin ?_; (repeat (first | refine XK.norm rfl rfl ?_ | refine XK.rgnA hT rfl rfl rfl ?_ | refine XK.rgnB hT hm rfl rfl rfl ?_))
      (repeat (first | refine XK.norm rfl rfl ?_ | refine XK.rgnA hT rfl rfl rfl ?_ | refine XK.rgnB hT hm rfl rfl rfl ?_)); refine XK.region ?_; refine XL.goA hT rfl rfl rfl rfl ?_
      ((refine XL.yieldM [0, 1, 2, 3, 4] hE rfl rfl rfl rfl trivial (hYi) rfl ?_ rfl ?_ rfl rfl rfl ?_); (focus (repeat' (first | exact rfl | exact AvIs.refl _ | exact trivial | (intro i hi; rfl) | exact fun _ _ => ⟨rfl, AvIs.refl _⟩ | (intro i hi; rcases i with _ | _ | _ | _ | _ | _ | _ | i <;> first | rfl | exact absurd hi (by simp; done) | (simp at hi; omega)) | refine ⟨?_, ?_⟩))); (focus (repeat' (first | exact rfl | exact AvIs.refl _ | exact trivial | (intro i hi; rfl) | exact fun _ _ => ⟨rfl, AvIs.refl _⟩ | (intro i hi; rcases i with _ | _ | _ | _ | _ | _ | _ | i <;> first | rfl | exact absurd hi (by simp; done) | (simp at hi; omega)) | refine ⟨?_, ?_⟩))))
      refine XL.goA hT rfl rfl rfl rfl ?_; refine XL.fin ?_; (repeat (first | refine XK.norm rfl rfl ?_ | refine XK.rgnA hT rfl rfl rfl ?_ | refine XK.rgnB hT hm rfl rfl rfl ?_))
      (repeat (first | refine XK.norm rfl rfl ?_ | refine XK.rgnA hT rfl rfl rfl ?_ | refine XK.rgnB hT hm rfl rfl rfl ?_)); refine XK.cond rfl (fun h7 => ?_) (fun h7 => ?_)
      · have h7 : t2.2.2 ≠ 0 := by
          intro h
          have := hT2.1.1 h
          simp [h, this] at h7
        rw [hstop h7]
        (repeat (first | refine XK.norm rfl rfl ?_ | refine XK.rgnA hT rfl rfl rfl ?_ | refine XK.rgnB hT hm rfl rfl rfl ?_))
        (first | refine XK.outR [0, 1, 2, 3, 4] hN rfl rfl rfl ?_ rfl rfl ?_ | refine XK.outRN [0, 1, 2, 3, 4] hN rfl rfl rfl ?_ rfl rfl ?_)
        · (repeat' (first | exact rfl | exact AvIs.refl _ | exact trivial | exact fun _ _ => rfl | exact fun _ _ => ⟨rfl, AvIs.refl _⟩ | refine ⟨?_, ?_⟩))
        · (repeat' (first | exact rfl | exact AvIs.refl _ | exact trivial | exact fun _ _ => rfl | exact fun _ _ => ⟨rfl, AvIs.refl _⟩ | refine ⟨?_, ?_⟩))
      · have h8 : t2.2.2 = 0 := by
          simp at h7
          omega
        have h9 := hT2.2 (hT2.1.1 h8)
        rw [if_pos h8]
        (repeat (first | refine XK.norm rfl rfl ?_ | refine XK.rgnA hT rfl rfl rfl ?_ | refine XK.rgnB hT hm rfl rfl rfl ?_))
        refine XK.inv ⟨i + 1, ⟨hlt, by rw [h2]; exact h8⟩, ?_, by omega⟩
        rw [h2, h9]
        exact (Weak.of hN rfl rfl rfl (by (repeat' (first | exact rfl | exact AvIs.refl _ | exact trivial | exact fun _ _ => rfl | exact fun _ _ => ⟨rfl, AvIs.refl _⟩ | refine ⟨?_, ?_⟩))) (by (repeat' (first | exact rfl | exact AvIs.refl _ | exact trivial | exact fun _ _ => rfl | exact fun _ _ => ⟨rfl, AvIs.refl _⟩ | refine ⟨?_, ?_⟩))))
    · have hie : i = l.length := by omega
      subst hie
      rw [if_pos he]
      (repeat (first | refine XK.norm rfl rfl ?_ | refine XK.rgnA hT rfl rfl rfl ?_ | refine XK.rgnB hT hm rfl rfl rfl ?_))
      (first | refine XK.outR [0, 1, 2, 3, 4] hN rfl rfl rfl ?_ rfl rfl ?_ | refine XK.outRN [0, 1, 2, 3, 4] hN rfl rfl rfl ?_ rfl rfl ?_)
      · (repeat' (first | exact rfl | exact AvIs.refl _ | exact trivial | exact fun _ _ => rfl | exact fun _ _ => ⟨rfl, AvIs.refl _⟩ | refine ⟨?_, ?_⟩))
      · (repeat' (first | exact rfl | exact AvIs.refl _ | exact trivial | exact fun _ _ => rfl | exact fun _ _ => ⟨rfl, AvIs.refl _⟩ | refine ⟨?_, ?_⟩))
theorem ints_app1 (L : List Int) (x : Int) (h : Nat → List AV) (hx : h 0 = [.c (.int .i64 x)]) : ∀ j, j < L.length + 1 → [AV.c (.int .i64 ((L ++ [x]).getD j default))] = catF L.length (fun i => [AV.c (.int .i64 (L.getD i default))]) h j := by
  intro j hj
  unfold catF
  by_cases h1 : j < L.length
  · have : Nat.blt j L.length = true := by simpa using h1
    rw [this, cond_true]
    simp [List.getD, List.getElem?_append_left h1]
  · have : Nat.blt j L.length = false := by
      cases hb : Nat.blt j L.length with
      | false => rfl
      | true => simp at hb; exact absurd hb h1
    have e : j = L.length := by omega
    rw [this, cond_false, e, Nat.sub_self, hx]
    simp [List.getD]
noncomputable def seenR (k : K) (ps l : List Int) : List Int × Int := if (pjT k ps l l.length).2.2 = 0 then ((pjT k ps l l.length).2.1, 0) else ([], (pjT k ps l l.length).2.2)
theorem seenGo_ok (k : K) (hk : kW k) (h0 : (startS k).2 = 0) (ps l : List Int) (hl : l.length ≤ 4000) : Does Try.prog 69 [kV k, intsV l, jfnV k ps] (.tup [intsV (seenR k ps l).1, .c (.int .i64 (seenR k ps l).2)]) := by
  refine Does.mk (fun _ => false) TT_ok Try.func69 rfl (by kernel_rfl) Try.ntmps69 rfl rfl fun E hT hE hN hR => ?_
  have hm : E.P.follows .mixedOrders = true := by rw [hE]; kernel_rfl
  iterate 4 (first | refine XK.norm rfl rfl ?_ | refine XK.rgnA hT rfl rfl rfl ?_ | refine XK.rgnB hT hm rfl rfl rfl ?_)
  (repeat (first | refine XK.norm rfl rfl ?_ | refine XK.rgnA hT rfl rfl rfl ?_ | refine XK.rgnB hT hm rfl rfl rfl ?_)); refine XK.region ?_; refine XL.goA hT rfl rfl rfl rfl ?_
  refine XL.callKA hE rfl rfl rfl rfl trivial rfl rfl (run_ok k l) ?_
  refine XL.goA hT rfl rfl rfl rfl ?_; refine XL.fin ?_; (repeat (first | refine XK.norm rfl rfl ?_ | refine XK.rgnA hT rfl rfl rfl ?_ | refine XK.rgnB hT hm rfl rfl rfl ?_))
  unfold seenR
  generalize hst : pjT k ps l l.length = sE
  have hsE : sE = pjT k ps l l.length := hst.symm
  refine XK.weak (Weak.trans (Weak.frozenC (k := 5) hN rfl rfl rfl) (Weak.trans (Weak.ghostC (c := 44) (k := 45) (e := 3) (sz := 1) (f := fun _ => []) rfl rfl rfl)
    (Weak.of (L := [(5, .rptr [jfnV k ps]), (6, .ptr 6 0), (7, .ptr 7 0), (8, .ptr 44 0), (13, .fn (.func 112) [] [.rptr (kC k), .rptr [intsV l]])])
      (O := [(44, .cells 49 [.vec 45 0]), (45, .vec 3 1 0 0 (fun i => [.c (.int .i64 (([] : List Int).getD i default))])), (6, .cells 49 [.c (.slice none 0 0)]), (7, .cells 38 [.c (.int .i64 0)])]) (nx := 2000) (nt := 36) (md := fun _ => false) hN rfl rfl rfl (by (repeat' (first | exact rfl | exact AvIs.refl _ | exact trivial | exact fun _ _ => rfl | exact fun _ _ => ⟨rfl, AvIs.refl _⟩ | refine ⟨?_, ?_⟩))) (by (repeat' (first | exact rfl | exact AvIs.refl _ | exact trivial | exact fun _ _ => rfl | exact fun _ _ => ⟨rfl, AvIs.refl _⟩ | exact cI (by omega) | exact (fun i hi => absurd hi (Nat.not_lt_zero _)) | refine ⟨?_, ?_⟩)))))) ?_
  refine XK.rangeFunc 900 [44, 45, 6, 7] (frL 36 [(5, .rptr [jfnV k ps]), (6, .ptr 6 0), (7, .ptr 7 0), (8, .ptr 44 0)])
    (ST.of [(6, .ptr 6 0), (7, .ptr 7 0), (8, .ptr 44 0)] [(44, .cells 49 [.vec 45 (2 * sE.2.1.length)]), (45, .vec 3 1 (2 * sE.2.1.length) sE.2.1.length (fun i => [.c (.int .i64 (sE.2.1.getD i default))])), (6, .cells 49 [.c (.slice none 0 0)]), (7, .cells 38 [.c (.int .i64 sE.2.2)])] 3000 36 (fun _ => false))
    (res := .tup []) (args' := [.rptr (kC k), .rptr [intsV l]]) (s := if sE.2.2 = 0 then .ready else .done) (pend := if sE.2.2 = 0 then none else some .ret) (O' := pjO sE.2.1 sE.2.2) (O := pjO [] 0) hR rfl trivial rfl (frL_length _ _) (frL_is (by (repeat' (first | exact rfl | exact AvIs.refl _ | exact trivial | exact fun _ _ => rfl | exact fun _ _ => ⟨rfl, AvIs.refl _⟩ | refine ⟨?_, ?_⟩)))) (fun L D fn => ?_) rfl (by (repeat' (first | exact rfl | exact AvIs.refl _ | exact trivial | exact fun _ _ => rfl | exact fun _ _ => ⟨rfl, AvIs.refl _⟩ | refine ⟨?_, ?_⟩))) rfl rfl (by (repeat' (first | exact rfl | exact AvIs.refl _ | exact trivial | exact fun _ _ => rfl | exact fun _ _ => ⟨rfl, AvIs.refl _⟩ | refine ⟨?_, ?_⟩))) rfl rfl (by split <;> simp) (fun L D fn cs => (Weak.of hN rfl rfl rfl (by (repeat' (first | exact rfl | exact AvIs.refl _ | exact trivial | exact fun _ _ => rfl | exact fun _ _ => ⟨rfl, AvIs.refl _⟩ | refine ⟨?_, ?_⟩))) (by (repeat' (first | exact rfl | exact AvIs.refl _ | exact trivial | exact fun _ _ => rfl | exact fun _ _ => ⟨rfl, AvIs.refl _⟩ | refine ⟨?_, ?_⟩))))) ?_
  · rw [hsE, hE]
    refine run1_ok k hk h0 ps l hl L L (recOf fn _ _ _ D) _ (fun i hi he => ?_) ?_
    rotate_left
    · split <;> rfl
    have hT1 : pjT k ps l (i + 1) = pjF k ps (pjT k ps l i) (l.getD i default) := by rw [pjT, if_neg (by simpa using he)]
    have hlen := pjT_len k ps l i
    have hsc := stepS_cases hk (pjT k ps l i).1 (l.getD i default)
    rw [hT1]
    clear hT1 hst hsE
    generalize pjT k ps l i = t1 at *
    generalize l.getD i default = z at *
    obtain ⟨s, r, e⟩ := t1
    dsimp only at he hlen hsc
    subst he
    unfold pjF
    dsimp only
    generalize stepS k s z = q at *
    refine DoesR.mkT TT_ok (fun _ => false) 100 (ST.of [(5, .rptr [jfnV k ps]), (6, .ptr 3 0), (7, .ptr 4 0), (8, .ptr 1 0), (9, .ptr 109 0), (10, .c (.int .i64 q.2))]
      [(0, .lrec (recOf fn _ _ _ D .ready none) L (pjCs k ps)), (1, .cells 49 [.vec 2 (2 * r.length)]), (2, .vec 3 1 (2 * r.length) r.length (fun i => [.c (.int .i64 (r.getD i default))])), (3, .cells 49 [.c (.slice none 0 0)]), (4, .cells 38 [.c (.int .i64 0)]), (109, .cells 145 (.c (.int .i64 z) :: stC s))] 1000 36 (fun _ => false)) rfl ?_ (Nat.le_refl 4) (fun E hT hE hN hR => ?_) rfl (fun E hT hE hN hR => ?_)
    · intro x hx
      have hx : x = 14 ∨ x = 15 := by simpa using hx
      rcases hx with rfl | rfl
      · show 14 < (frL 36 _).length
        rw [frL_length]
        omega
      · show 15 < (frL 36 _).length
        rw [frL_length]
        omega
    · have hm : E.P.follows .mixedOrders = true := by rw [hE]; kernel_rfl
      (repeat (first | refine XK.norm rfl rfl ?_ | refine XK.rgnA hT rfl rfl rfl ?_ | refine XK.rgnB hT hm rfl rfl rfl ?_))
      exact XK.nil ⟨rfl, (Weak.of hN rfl rfl rfl (by (repeat' (first | exact rfl | exact AvIs.refl _ | exact trivial | exact fun _ _ => rfl | exact fun _ _ => ⟨rfl, AvIs.refl _⟩ | refine ⟨?_, ?_⟩))) (by (repeat' (first | exact rfl | exact AvIs.refl _ | exact trivial | exact fun _ _ => rfl | exact fun _ _ => ⟨rfl, AvIs.refl _⟩ | refine ⟨?_, ?_⟩))))⟩
    · have hm : E.P.follows .mixedOrders = true := by rw [hE]; kernel_rfl
      (repeat (first | refine XK.norm rfl rfl ?_ | refine XK.rgnA hT rfl rfl rfl ?_ | refine XK.rgnB hT hm rfl rfl rfl ?_)); refine XK.cond rfl (fun h5 => ?_) (fun h5 => ?_) <;> (try simp at h5)
      · rw [if_pos h5]
        (repeat (first | refine XK.norm rfl rfl ?_ | refine XK.rgnA hT rfl rfl rfl ?_ | refine XK.rgnB hT hm rfl rfl rfl ?_))
        (first | refine XK.outY [0, 1, 2, 3, 4] hN rfl rfl rfl ?_ ?_ ?_ | refine XK.outYN [0, 1, 2, 3, 4] hN rfl rfl rfl ?_ ?_ ?_)
        · (repeat' (first | exact rfl | exact AvIs.refl _ | exact trivial | exact fun _ _ => rfl | exact fun _ _ => ⟨rfl, AvIs.refl _⟩ | refine ⟨?_, ?_⟩))
        · simp [h5]
        · show _ = if q.2 = 0 then _ else _
          rw [if_neg h5]
      · rw [if_neg (by simpa using h5)]
        have hj : (z == -1) = false → Does Try.prog 70 [stV s, .c (.int .i64 z), .rptr [intsV ps], .rptr (kC k)] (.c (.bool (someB k ps s z.toNat))) := fun h => by
          have hz : z ≠ -1 := by simpa using h
          rcases hsc with ⟨_, h⟩ | ⟨_, _, h⟩ | ⟨⟨hv, h1, h2⟩, _⟩
          · rw [h] at h5; cases h5
          · rw [h] at h5; cases h5
          · have hl := validS_len hv
            have := j2_ok k (show kOk k from ⟨hk, hl.1⟩).facts ps s hl.2.1 z.toNat (by omega)
            rwa [Int.toNat_of_nonneg (by omega)] at this
        (repeat (first | refine XK.norm rfl rfl ?_ | refine XK.rgnA hT rfl rfl rfl ?_ | refine XK.rgnB hT hm rfl rfl rfl ?_)); refine XK.region ?_; refine XL.goA hT rfl rfl rfl rfl ?_
        refine XL.callLG hE rfl rfl rfl rfl rfl rfl rfl (by first | (simp [AllP, impG]; done) | (simp only [AllP, impG]; grind)) rfl (fun hgd => ⟨hj (by simpa using hgd), (by (repeat' (first | exact rfl | exact AvIs.refl _ | exact trivial | (intro i hi; rfl) | exact fun _ _ => ⟨rfl, AvIs.refl _⟩ | (intro i hi; rcases i with _ | _ | _ | _ | _ | _ | _ | i <;> first | rfl | exact absurd hi (by simp; done) | (simp at hi; omega)) | refine ⟨?_, ?_⟩)))⟩) rfl ?_
        refine XL.goA hT rfl rfl rfl rfl ?_; refine XL.fin ?_; (repeat (first | refine XK.norm rfl rfl ?_ | refine XK.rgnA hT rfl rfl rfl ?_ | refine XK.rgnB hT hm rfl rfl rfl ?_))
        (repeat (first | refine XK.norm rfl rfl ?_ | refine XK.rgnA hT rfl rfl rfl ?_ | refine XK.rgnB hT hm rfl rfl rfl ?_)); refine XK.cond rfl (fun h6 => ?_) (fun h6 => ?_)
        · have h6 : (z == -1 || someB k ps s z.toNat) = true := h6
          rw [if_pos h6]
          refine XK.weak (Weak.trans (Weak.steal 500 (k := 2) (s := 2 * r.length) (f' := fun _ => []) hN rfl rfl rfl) (Weak.of (L := [(6, .ptr 3 0), (7, .ptr 4 0), (8, .ptr 1 0), (9, .ptr 109 0)])
            (O := [(0, .lrec (recOf fn _ _ _ D .busy none) L (pjCs k ps)), (1, .cells 49 [.vec 500 0]), (2, .vec 3 1 (2 * r.length + 1) 0 (fun _ => [])), (3, .cells 49 [.c (.slice none 0 0)]), (4, .cells 38 [.c (.int .i64 0)]), (500, .vec 3 1 0 r.length (fun i => [.c (.int .i64 (r.getD i default))])), (109, .cells 145 (.c (.int .i64 z) :: stC s))]) (nx := 3000) (nt := 36) (md := fun _ => false) hN rfl rfl rfl (by (repeat' (first | exact rfl | exact AvIs.refl _ | exact trivial | exact fun _ _ => rfl | exact fun _ _ => ⟨rfl, AvIs.refl _⟩ | refine ⟨?_, ?_⟩))) ⟨⟨rfl, rfl, rfl⟩, ⟨rfl, congrArg (fun x => [x]) (stealG_self 2 (2 * r.length) 500)⟩, by (repeat' (first | exact rfl | exact AvIs.refl _ | exact trivial | exact fun _ _ => rfl | exact fun _ _ => ⟨rfl, AvIs.refl _⟩ | refine ⟨?_, ?_⟩)), by (repeat' (first | exact rfl | exact AvIs.refl _ | exact trivial | exact fun _ _ => rfl | exact fun _ _ => ⟨rfl, AvIs.refl _⟩ | refine ⟨?_, ?_⟩)), by (repeat' (first | exact rfl | exact AvIs.refl _ | exact trivial | exact fun _ _ => rfl | exact fun _ _ => ⟨rfl, AvIs.refl _⟩ | refine ⟨?_, ?_⟩)), by (repeat' (first | exact rfl | exact AvIs.refl _ | exact trivial | exact fun _ _ => rfl | exact fun _ _ => ⟨rfl, AvIs.refl _⟩ | refine ⟨?_, ?_⟩)), by (repeat' (first | exact rfl | exact AvIs.refl _ | exact trivial | exact fun _ _ => rfl | exact fun _ _ => ⟨rfl, AvIs.refl _⟩ | refine ⟨?_, ?_⟩))⟩)) ?_
          (repeat (first | refine XK.norm rfl rfl ?_ | refine XK.rgnA hT rfl rfl rfl ?_ | refine XK.rgnB hT hm rfl rfl rfl ?_))
          refine XK.nilY (Weak.give (k := 2) (q := 500) (2 * (r.length + 1)) hN rfl rfl rfl rfl (by omega)) ?_
          (first | refine XK.outY [0, 1, 2, 3, 4] hN rfl rfl rfl ?_ ?_ ?_ | refine XK.outYN [0, 1, 2, 3, 4] hN rfl rfl rfl ?_ ?_ ?_)
          · exact ⟨⟨rfl, rfl, rfl⟩, ⟨rfl, by simp⟩, ⟨⟨rfl, rfl, by simp⟩, by simp, ints_app1 r _ _ rfl⟩, by (repeat' (first | exact rfl | exact AvIs.refl _ | exact trivial | exact fun _ _ => rfl | exact fun _ _ => ⟨rfl, AvIs.refl _⟩ | refine ⟨?_, ?_⟩)), by (repeat' (first | exact rfl | exact AvIs.refl _ | exact trivial | exact fun _ _ => rfl | exact fun _ _ => ⟨rfl, AvIs.refl _⟩ | refine ⟨?_, ?_⟩))⟩
          · rfl
          · rfl
        · have h6 : (z == -1 || someB k ps s z.toNat) = false := h6
          rw [if_neg (by rw [h6]; simp)]
          (repeat (first | refine XK.norm rfl rfl ?_ | refine XK.rgnA hT rfl rfl rfl ?_ | refine XK.rgnB hT hm rfl rfl rfl ?_))
          (first | refine XK.outY [0, 1, 2, 3, 4] hN rfl rfl rfl ?_ ?_ ?_ | refine XK.outYN [0, 1, 2, 3, 4] hN rfl rfl rfl ?_ ?_ ?_)
          · (repeat' (first | exact rfl | exact AvIs.refl _ | exact trivial | exact fun _ _ => rfl | exact fun _ _ => ⟨rfl, AvIs.refl _⟩ | refine ⟨?_, ?_⟩))
          · rfl
          · rfl
  · by_cases herr : sE.2.2 = 0
    · rw [if_pos herr, if_pos herr]
      generalize sE.2.1 = PL at *
      refine XK.weak (Weak.trans (Weak.stamp (k := 45) (t := 0) hN rfl rfl) (Weak.trans (Weak.of (L := [(6, .ptr 6 0), (7, .ptr 7 0), (8, .ptr 44 0)])
        (O := [(44, .cells 49 [.vec 45 0]), (45, .vec 3 1 0 PL.length (fun i => [.c (.int .i64 (PL.getD i default))])), (6, .cells 49 [.c (.slice none 0 0)]), (7, .cells 38 [.c (.int .i64 sE.2.2)])]) (nx := 4000) (nt := 36) (md := fun _ => false) hN rfl rfl rfl (by (repeat' (first | exact rfl | exact AvIs.refl _ | exact trivial | exact fun _ _ => rfl | exact fun _ _ => ⟨rfl, AvIs.refl _⟩ | refine ⟨?_, ?_⟩))) ⟨⟨rfl, congrArg (fun x => [x]) (stampG_self 45 (2 * PL.length) 0)⟩, by (repeat' (first | exact rfl | exact AvIs.refl _ | exact trivial | exact fun _ _ => rfl | exact fun _ _ => ⟨rfl, AvIs.refl _⟩ | refine ⟨?_, ?_⟩)), by (repeat' (first | exact rfl | exact AvIs.refl _ | exact trivial | exact fun _ _ => rfl | exact fun _ _ => ⟨rfl, AvIs.refl _⟩ | refine ⟨?_, ?_⟩)), by (repeat' (first | exact rfl | exact AvIs.refl _ | exact trivial | exact fun _ _ => rfl | exact fun _ _ => ⟨rfl, AvIs.refl _⟩ | refine ⟨?_, ?_⟩))⟩) (Weak.frozen (k := 45) hN rfl rfl))) ?_
      (repeat (first | refine XK.norm rfl rfl ?_ | refine XK.rgnA hT rfl rfl rfl ?_ | refine XK.rgnB hT hm rfl rfl rfl ?_))
      (first | refine XK.out rfl rfl rfl ?_ | refine XK.outN rfl rfl rfl ?_)
      rfl
    · rw [if_neg herr, if_neg herr]
      show XK E [.code .ret, _, _] _ _
      (repeat (first | refine XK.norm rfl rfl ?_ | refine XK.rgnA hT rfl rfl rfl ?_ | refine XK.rgnB hT hm rfl rfl rfl ?_))
      (first | refine XK.outL rfl rfl rfl ?_ | refine XK.outLN rfl rfl rfl ?_)
      exact ⟨⟨rfl, rfl⟩, rfl⟩
end Go.Proofs.Ytbheoblmfjjaaaa
end
