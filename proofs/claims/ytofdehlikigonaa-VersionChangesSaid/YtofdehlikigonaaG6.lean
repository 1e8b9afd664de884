import Derived.Test.YtofdehlikigonaaG5
section
/- Contracts: package version: the amendments that count, one after the other (for InForce). -/
namespace Go.Proofs.Ytofdehlikigonaa
open Go.Eng
set_option maxRecDepth 10000
set_option linter.unusedSimpArgs false
set_option linter.unusedVariables false
/-- What the contract in force is computed with: the contract, the numbers, whether it is over. -/
abbrev InS := (K × List Int) × Bool
def numsO (L : List Int) : Ob := .vec 3 1 (2 * L.length) L.length (fun i => [.c (.int .i64 (L.getD i default))])
def inO (s : InS) : List Ob := [.cells 41 (kC s.1.1), .cells 24 [.vec 3 (2 * s.1.2.length)], numsO s.1.2]
def inN (s : InS) : List (Nat × Ob) := [(1, .cells 41 (kC s.1.1)), (2, .cells 24 [.vec 3 (2 * s.1.2.length)]), (3, numsO s.1.2)]
def csI (day : Int) : List AV := frL 51 [(6, .rptr [.c (.int .i64 day)]), (12, .ptr 1 0), (13, .ptr 2 0)]
def amAt (l : List Am) (i : Nat) : Am := l.getD (ordAt l i) default
theorem countI_ok (l : List Am) (known : Int) (hl : l.length ≤ 1000000) (day : Int) (L b : Nat) (mk : LoopState → Option Code → Array Value → Obj) (jmp : Code) (mkE : Array Value → Obj) (st : Nat → InS) (h0 : (st 0).2 = false)
    (hN0 : ∀ i, i < l.length → known < (amAt l i).known → st (i + 1) = st i) (hS : ∀ i, (st i).2 = true → ∀ m, i ≤ m → st m = st i)
    (hY : ∀ i, i < l.length → (amAt l i).known ≤ known → (st i).2 = false →
      DoesR Try.prog L [amV (amAt l i)] (.lrec (mk .ready none) b (csI day) :: inO (st i)) (.c (.bool (!(st (i + 1)).2))) (.lrec (if (st (i + 1)).2 = false then mk .ready none else mk .done (some jmp)) b (csI day) :: inO (st (i + 1))))
    (hE : (if (st l.length).2 = false then mk .ready none else mk .done (some jmp)) = mkE) :
    DoesM Try.prog 45 [.fn (.yield L) [] [], .rptr [amsV l], .rptr [.c (.int .i64 known)]] (.lrec (mk .ready none) b (csI day) :: inO (st 0)) (.tup []) (.lrec mkE b (csI day) :: inO (st l.length)) := by
  subst hE
  refine DoesM.mk (fun _ => false) 100 TT_ok Try.func45 rfl (by kernel_rfl) Try.ntmps45 rfl rfl rfl fun E hT hE hN hR => ?_
  have hm : E.P.follows .mixedOrders = true := by rw [hE]; kernel_rfl
  (repeat (first | refine XK.norm rfl rfl ?_ | refine XK.rgnA hT rfl rfl rfl ?_ | refine XK.rgnB hT hm rfl rfl rfl ?_)); refine XK.region ?_; refine XL.goA hT rfl rfl rfl rfl ?_
  refine XL.callKA hE rfl rfl rfl rfl trivial rfl rfl (order_ok l hl) ?_
  refine XL.goA hT rfl rfl rfl rfl ?_; refine XL.fin ?_; (repeat (first | refine XK.norm rfl rfl ?_ | refine XK.rgnA hT rfl rfl rfl ?_ | refine XK.rgnB hT hm rfl rfl rfl ?_))
  have hol := ordI_len l
  refine XK.loop (ι := Nat) (fun i => ST.of [(0, .fn (.yield L) [] []), (1, .rptr [amsV l]), (2, .rptr [.c (.int .i64 known)]), (7, intsV (ordI l)), (8, .c (.int .i64 l.length)), (9, .c (.int .i64 i))]
      ((0, .lrec (mk .ready none) b (csI day)) :: inN (st i)) 1000 30 (fun _ => false))
    (fun i => i ≤ l.length ∧ (st i).2 = false) (fun i => l.length - i) 0 ⟨Nat.zero_le _, h0⟩
    (Weak.of hN rfl rfl rfl (by (repeat' (first | exact rfl | exact AvIs.refl _ | exact trivial | exact fun _ _ => rfl | exact fun _ _ => ⟨rfl, AvIs.refl _⟩ | exact cI (by omega) | exact (cI (by omega)) | refine ⟨?_, ?_⟩))) (by (repeat' (first | exact rfl | exact AvIs.refl _ | exact trivial | exact fun _ _ => rfl | exact fun _ _ => ⟨rfl, AvIs.refl _⟩ | refine ⟨?_, ?_⟩)))) fun i hi => ?_
  obtain ⟨hi, hst⟩ := hi
  (repeat (first | refine XK.norm rfl rfl ?_ | refine XK.rgnA hT rfl rfl rfl ?_ | refine XK.rgnB hT hm rfl rfl rfl ?_)); refine XK.cond rfl (fun hlt => ?_) (fun hlt => ?_) <;> (try simp at hlt)
  · have hY := hY i hlt
    have hN0 := hN0 i hlt
    have hor := ordI_at l hlt
    have hop : ordAt l i < l.length := by
      unfold ordAt
      have h1 : i < (ordL l).length := by rw [ordL_len]; exact hlt
      rw [List.getD_eq_getElem?_getD, List.getElem?_eq_getElem h1]
      exact ordL_lt (List.getElem_mem h1)
    have fx : (ordI l).getD (i : Int).toNat default = (ordAt l i : Nat) := hor
    have fa : l.getD ((ordAt l i : Nat) : Int).toNat default = amAt l i := rfl
    (repeat (first | refine XK.norm rfl rfl ?_ | refine XK.rgnA hT rfl rfl rfl ?_ | refine XK.rgnB hT hm rfl rfl rfl ?_))
    rw [fx]
    refine XK.drawn hm ?_
    refine XD.goA hT rfl rfl rfl rfl ?_
    rw [fa]
    have hN0 : (decide ((amAt l i).known ≤ known)) = false → st (i + 1) = st i := fun h => hN0 (by simpa using h)
    have hY : (decide ((amAt l i).known ≤ known)) = true → _ := fun h => hY (by simpa using h) hst
    generalize hg : decide ((amAt l i).known ≤ known) = gd at *
    refine XD.yieldMG [0, 1, 2, 3] (.c (.bool false)) hE rfl rfl rfl rfl rfl rfl (fun hgd => ?_) rfl (fun hgd => ?_) (fun hgd => hY hgd) rfl ?_ rfl (fun hgd => ?_) rfl rfl rfl (fun hgd => ?_)
    · subst hgd
      refine XD.goA hT rfl rfl rfl rfl ?_; refine XD.fin (by kernel_rfl) ?_; (repeat (first | refine XK.norm rfl rfl ?_ | refine XK.rgnA hT rfl rfl rfl ?_ | refine XK.rgnB hT hm rfl rfl rfl ?_))
      (repeat (first | refine XK.norm rfl rfl ?_ | refine XK.rgnA hT rfl rfl rfl ?_ | refine XK.rgnB hT hm rfl rfl rfl ?_)); refine XK.cond rfl (fun hb => ?_) (fun hb => ?_)
      · cases hb
      · (repeat (first | refine XK.norm rfl rfl ?_ | refine XK.rgnA hT rfl rfl rfl ?_ | refine XK.rgnB hT hm rfl rfl rfl ?_))
        refine XK.inv ⟨i + 1, ⟨hlt, by rw [hN0 rfl]; exact hst⟩, ?_, by omega⟩
        rw [hN0 rfl]
        exact (Weak.of hN rfl rfl rfl (by (repeat' (first | exact rfl | exact AvIs.refl _ | exact trivial | exact fun _ _ => rfl | exact fun _ _ => ⟨rfl, AvIs.refl _⟩ | refine ⟨?_, ?_⟩))) (by (repeat' (first | exact rfl | exact AvIs.refl _ | exact trivial | exact fun _ _ => rfl | exact fun _ _ => ⟨rfl, AvIs.refl _⟩ | refine ⟨?_, ?_⟩))))
    · simp only [AllP, impG, hgd]; simp
    · (repeat' (first | exact rfl | exact AvIs.refl _ | exact trivial | exact fun _ _ => rfl | exact fun _ _ => ⟨rfl, AvIs.refl _⟩ | refine ⟨?_, ?_⟩))
    · (repeat' (first | exact rfl | exact AvIs.refl _ | exact trivial | exact fun _ _ => rfl | exact fun _ _ => ⟨rfl, AvIs.refl _⟩ | refine ⟨?_, ?_⟩))
    · subst hgd
      refine XD.goA hT rfl rfl rfl rfl ?_; refine XD.fin (by kernel_rfl) ?_; (repeat (first | refine XK.norm rfl rfl ?_ | refine XK.rgnA hT rfl rfl rfl ?_ | refine XK.rgnB hT hm rfl rfl rfl ?_))
      (repeat (first | refine XK.norm rfl rfl ?_ | refine XK.rgnA hT rfl rfl rfl ?_ | refine XK.rgnB hT hm rfl rfl rfl ?_)); refine XK.cond rfl (fun hb => ?_) (fun hb => ?_)
      · have h7 : (st (i + 1)).2 = true := by simpa using hb
        have hlast := hS (i + 1) h7 l.length hlt
        rw [hlast, h7, if_neg (by simp)]
        (repeat (first | refine XK.norm rfl rfl ?_ | refine XK.rgnA hT rfl rfl rfl ?_ | refine XK.rgnB hT hm rfl rfl rfl ?_))
        (first | refine XK.outR [0, 1, 2, 3] hN rfl rfl rfl ?_ rfl rfl ?_ | refine XK.outRN [0, 1, 2, 3] hN rfl rfl rfl ?_ rfl rfl ?_)
        · (repeat' (first | exact rfl | exact AvIs.refl _ | exact trivial | exact fun _ _ => rfl | exact fun _ _ => ⟨rfl, AvIs.refl _⟩ | refine ⟨?_, ?_⟩))
        · (repeat' (first | exact rfl | exact AvIs.refl _ | exact trivial | exact fun _ _ => rfl | exact fun _ _ => ⟨rfl, AvIs.refl _⟩ | refine ⟨?_, ?_⟩))
      · have h7 : (st (i + 1)).2 = false := by simpa using hb
        rw [if_pos h7]
        (repeat (first | refine XK.norm rfl rfl ?_ | refine XK.rgnA hT rfl rfl rfl ?_ | refine XK.rgnB hT hm rfl rfl rfl ?_))
        exact XK.inv ⟨i + 1, ⟨hlt, h7⟩, (Weak.of hN rfl rfl rfl (by (repeat' (first | exact rfl | exact AvIs.refl _ | exact trivial | exact fun _ _ => rfl | exact fun _ _ => ⟨rfl, AvIs.refl _⟩ | refine ⟨?_, ?_⟩))) (by (repeat' (first | exact rfl | exact AvIs.refl _ | exact trivial | exact fun _ _ => rfl | exact fun _ _ => ⟨rfl, AvIs.refl _⟩ | refine ⟨?_, ?_⟩)))), by omega⟩
  · have hie : i = l.length := by omega
    subst hie
    rw [if_pos hst]
    (repeat (first | refine XK.norm rfl rfl ?_ | refine XK.rgnA hT rfl rfl rfl ?_ | refine XK.rgnB hT hm rfl rfl rfl ?_))
    (first | refine XK.outR [0, 1, 2, 3] hN rfl rfl rfl ?_ rfl rfl ?_ | refine XK.outRN [0, 1, 2, 3] hN rfl rfl rfl ?_ rfl rfl ?_)
    · (repeat' (first | exact rfl | exact AvIs.refl _ | exact trivial | exact fun _ _ => rfl | exact fun _ _ => ⟨rfl, AvIs.refl _⟩ | refine ⟨?_, ?_⟩))
    · (repeat' (first | exact rfl | exact AvIs.refl _ | exact trivial | exact fun _ _ => rfl | exact fun _ _ => ⟨rfl, AvIs.refl _⟩ | refine ⟨?_, ?_⟩))
end Go.Proofs.Ytofdehlikigonaa
end
section
/- Contracts: package version: InForce. -/
namespace Go.Proofs.Ytofdehlikigonaa
open Go.Eng
set_option maxRecDepth 10000
set_option linter.unusedSimpArgs false
set_option linter.unusedVariables false
noncomputable def stepA (s : K × List Int) (a : Am) : K × List Int := if (applyR s.1 a.patch).2 = 0 then ((applyR s.1 a.patch).1, s.2 ++ [a.number]) else s
noncomputable def stI (l : List Am) (k : K) (day known : Int) : Nat → InS
  | 0 => ((k, []), false)
  | i + 1 => if (stI l k day known i).2 = true then stI l k day known i else if known < (amAt l i).known then stI l k day known i else if day < (amAt l i).day then ((stI l k day known i).1, true) else (stepA (stI l k day known i).1 (amAt l i), false)
noncomputable def inForceR (k : K) (l : List Am) (day known : Int) : (K × List Int) × Int := if checkV k l ≠ 0 then ((zeroK, []), checkV k l) else ((stI l k day known l.length).1, 0)
def amOk (a : Am) : Prop := amW a ∧ a.patch.clauses.length ≤ 1000000 ∧ a.patch.new.start.length ≤ 1000000
def amsOk (l : List Am) : Prop := ∀ a ∈ l, amOk a
theorem amAt_mem {l : List Am} {i : Nat} (hi : i < l.length) : amAt l i ∈ l := by
  have h1 : i < (ordL l).length := by rw [ordL_len]; exact hi
  have h2 : ordAt l i < l.length := by
    unfold ordAt
    rw [List.getD_eq_getElem?_getD, List.getElem?_eq_getElem h1]
    exact ordL_lt (List.getElem_mem h1)
  unfold amAt
  rw [List.getD_eq_getElem?_getD, List.getElem?_eq_getElem h2]
  exact List.getElem_mem h2
theorem stI_stop {l : List Am} {k : K} {day known : Int} {i : Nat} (h : (stI l k day known i).2 = true) : ∀ m, i ≤ m → stI l k day known m = stI l k day known i := by
  intro m hm
  induction m with
  | zero => have : i = 0 := by omega
            rw [this]
  | succ m ih =>
    by_cases h1 : i = m + 1
    · rw [h1]
    · have h2 := ih (by omega)
      rw [stI, if_pos (by rw [h2]; exact h), h2]
theorem stepA_W {s : K × List Int} (h : kW s.1) {a : Am} (ha : amOk a) : kW (stepA s a).1 := by
  unfold stepA
  split
  · exact applyR_W h ha.1.2.2.2
  · exact h
theorem stI_W {l : List Am} (hl : amsOk l) {k : K} (hk : kW k) {day known : Int} : ∀ i, i ≤ l.length → kW (stI l k day known i).1.1
  | 0, _ => hk
  | i + 1, hi => by
    have ih := stI_W hl hk (day := day) (known := known) i (by omega)
    rw [stI]
    split
    · exact ih
    · split
      · exact ih
      · split
        · exact ih
        · exact stepA_W ih (hl _ (amAt_mem (by omega)))
theorem stI_len (l : List Am) (k : K) (day known : Int) : ∀ i, (stI l k day known i).1.2.length ≤ i
  | 0 => Nat.le_refl _
  | i + 1 => by
    have ih := stI_len l k day known i
    rw [stI]
    split
    · omega
    · split
      · omega
      · split
        · show (stI l k day known i).1.2.length ≤ _; omega
        · show (stepA _ _).2.length ≤ _
          unfold stepA
          split
          · simp; omega
          · omega
theorem ints_appV (L : List Int) (x : Int) (h : Nat → List AV) (hx : h 0 = [.c (.int .i64 x)]) : ∀ j, j < L.length + 1 → [AV.c (.int .i64 ((L ++ [x]).getD j default))] = catF L.length (fun i => [AV.c (.int .i64 (L.getD i default))]) h j := by
  intro j hj
  unfold catF
  by_cases h1 : j < L.length
  · have : Nat.blt j L.length = true := by simpa using h1
    rw [this, cond_true]
    simp [List.getD, List.getElem?_append_left h1]
  · have : Nat.blt j L.length = false := by
      cases hb : Nat.blt j L.length with
      | false => rfl
      | true => simp at hb; exact absurd hb h1
    have e : j = L.length := by omega
    rw [this, cond_false, e, Nat.sub_self, hx]
    simp [List.getD]
theorem inForce_ok0 (k : K) (hk : kW k) (l : List Am) (hl : amsOk l) (day known : Int) : Does Try.prog 12 [kV k, amsV l, .c (.int .i64 day), .c (.int .i64 known)] (.tup [kE ((inForceR k l day known).1.1, (inForceR k l day known).2), intsV (inForceR k l day known).1.2, .c (.int .i64 (inForceR k l day known).2)]) := by
  refine Does.mk (fun _ => false) TT_ok Try.func12 rfl (by kernel_rfl) Try.ntmps12 rfl rfl fun E hT hE hN hR => ?_
  have hm : E.P.follows .mixedOrders = true := by rw [hE]; kernel_rfl
  (repeat (first | refine XK.norm rfl rfl ?_ | refine XK.rgnA hT rfl rfl rfl ?_ | refine XK.rgnB hT hm rfl rfl rfl ?_)); refine XK.region ?_; refine XL.goA hT rfl rfl rfl rfl ?_
  refine XL.callLA hE rfl rfl rfl rfl trivial rfl (checkV_ok k hk l) rfl ?_
  refine XL.goA hT rfl rfl rfl rfl ?_; refine XL.fin ?_; (repeat (first | refine XK.norm rfl rfl ?_ | refine XK.rgnA hT rfl rfl rfl ?_ | refine XK.rgnB hT hm rfl rfl rfl ?_))
  (repeat (first | refine XK.norm rfl rfl ?_ | refine XK.rgnA hT rfl rfl rfl ?_ | refine XK.rgnB hT hm rfl rfl rfl ?_)); refine XK.cond rfl (fun h1 => ?_) (fun h1 => ?_) <;> (try simp at h1)
  · (repeat (first | refine XK.norm rfl rfl ?_ | refine XK.rgnA hT rfl rfl rfl ?_ | refine XK.rgnB hT hm rfl rfl rfl ?_))
    (first | refine XK.outL rfl rfl rfl ?_ | refine XK.outLN rfl rfl rfl ?_)
    rw [inForceR, if_pos h1]
    unfold kE
    rw [if_neg h1]
    exact ⟨rfl, ⟨rfl, rfl⟩, rfl⟩
  have hv : (kValid k).1 = 0 := by
    by_cases h : (kValid k).1 = 0
    · exact h
    · rw [checkV, if_pos h] at h1; cases h1
  have hll : l.length ≤ 60 := by
    by_cases h : 60 < l.length
    · rw [checkV, if_neg (by simpa using hv), if_pos h] at h1; cases h1
    · omega
  rw [inForceR, if_neg (by rw [h1]; simp)]
  (repeat (first | refine XK.norm rfl rfl ?_ | refine XK.rgnA hT rfl rfl rfl ?_ | refine XK.rgnB hT hm rfl rfl rfl ?_)); refine XK.region ?_; refine XL.goA hT rfl rfl rfl rfl ?_
  refine XL.callKA hE rfl rfl rfl rfl trivial rfl rfl (copied_ok k hv hk) ?_
  refine XL.goA hT rfl rfl rfl rfl ?_; refine XL.fin ?_; (repeat (first | refine XK.norm rfl rfl ?_ | refine XK.rgnA hT rfl rfl rfl ?_ | refine XK.rgnB hT hm rfl rfl rfl ?_))
  (repeat (first | refine XK.norm rfl rfl ?_ | refine XK.rgnA hT rfl rfl rfl ?_ | refine XK.rgnB hT hm rfl rfl rfl ?_)); refine XK.region ?_; refine XL.goA hT rfl rfl rfl rfl ?_
  refine XL.callKA hE rfl rfl rfl rfl trivial rfl rfl (counting_ok l known) ?_
  refine XL.goA hT rfl rfl rfl rfl ?_; refine XL.fin ?_; (repeat (first | refine XK.norm rfl rfl ?_ | refine XK.rgnA hT rfl rfl rfl ?_ | refine XK.rgnB hT hm rfl rfl rfl ?_))
  generalize hsE : stI l k day known l.length = sE
  have hsE : sE = stI l k day known l.length := hsE.symm
  refine XK.weak (Weak.trans (Weak.frozenC (k := 6) hN rfl rfl rfl) (Weak.trans (Weak.ghostC (c := 217) (k := 218) (e := 3) (sz := 1) (f := fun _ => []) rfl rfl rfl)
    (Weak.of (L := [(6, .rptr [.c (.int .i64 day)]), (8, .ptr 8 0), (12, .ptr 165 0), (13, .ptr 217 0), (28, (.fn (.func 45) [] [.rptr [amsV l], .rptr [.c (.int .i64 known)]]))])
      (O := [(165, .cells 41 (kC k)), (217, .cells 24 [.vec 218 0]), (218, numsO []), (8, .cells 41 [.c (.int .i64 0), .c (.slice none 0 0), .c (.slice none 0 0), .c (.slice none 0 0), .c (.slice none 0 0), .c (.int .i64 0), .c (.slice none 0 0)])]) (nx := 2000) (nt := 51) (md := fun _ => false) hN rfl rfl rfl (by (repeat' (first | exact rfl | exact AvIs.refl _ | exact trivial | exact fun _ _ => rfl | exact fun _ _ => ⟨rfl, AvIs.refl _⟩ | refine ⟨?_, ?_⟩))) (by (repeat' (first | exact rfl | exact AvIs.refl _ | exact trivial | exact fun _ _ => rfl | exact fun _ _ => ⟨rfl, AvIs.refl _⟩ | exact cI (by omega) | exact (fun i hi => absurd hi (Nat.not_lt_zero _)) | refine ⟨?_, ?_⟩)))))) ?_
  refine XK.rangeFunc 900 [165, 217, 218] (frL 51 [(6, .rptr [.c (.int .i64 day)]), (12, .ptr 165 0), (13, .ptr 217 0)])
    (ST.of [(8, .ptr 8 0), (12, .ptr 165 0), (13, .ptr 217 0)] [(165, .cells 41 (kC sE.1.1)), (217, .cells 24 [.vec 218 (2 * sE.1.2.length)]), (218, numsO sE.1.2), (8, .cells 41 [.c (.int .i64 0), .c (.slice none 0 0), .c (.slice none 0 0), .c (.slice none 0 0), .c (.slice none 0 0), .c (.int .i64 0), .c (.slice none 0 0)])] 3000 51 (fun _ => false))
    (res := .tup []) (args' := [.rptr [amsV l], .rptr [.c (.int .i64 known)]]) (s := if sE.2 = false then .ready else .done) (pend := if sE.2 = false then none else some (.exit 0)) (O' := inO sE) (O := inO ((k, []), false)) hR rfl trivial rfl (frL_length _ _) (frL_is (by (repeat' (first | exact rfl | exact AvIs.refl _ | exact trivial | exact fun _ _ => rfl | exact fun _ _ => ⟨rfl, AvIs.refl _⟩ | refine ⟨?_, ?_⟩)))) (fun L D fn => ?_) rfl (by (repeat' (first | exact rfl | exact AvIs.refl _ | exact trivial | exact fun _ _ => rfl | exact fun _ _ => ⟨rfl, AvIs.refl _⟩ | refine ⟨?_, ?_⟩))) rfl rfl (by (repeat' (first | exact rfl | exact AvIs.refl _ | exact trivial | exact fun _ _ => rfl | exact fun _ _ => ⟨rfl, AvIs.refl _⟩ | refine ⟨?_, ?_⟩))) rfl rfl (by split <;> simp) (fun L D fn cs => (Weak.of hN rfl rfl rfl (by (repeat' (first | exact rfl | exact AvIs.refl _ | exact trivial | exact fun _ _ => rfl | exact fun _ _ => ⟨rfl, AvIs.refl _⟩ | refine ⟨?_, ?_⟩))) (by (repeat' (first | exact rfl | exact AvIs.refl _ | exact trivial | exact fun _ _ => rfl | exact fun _ _ => ⟨rfl, AvIs.refl _⟩ | refine ⟨?_, ?_⟩))))) ?_
  · rw [hsE, hE]
    refine countI_ok l known (by omega) day L L (recOf fn _ _ _ D) (.exit 0) _ (stI l k day known) rfl (fun i hi h => ?_) (fun i h m hm => stI_stop h m hm) (fun i hi hkn h0 => ?_) ?_
    · rw [stI]
      split
      · rfl
      · rfl
    rotate_left
    · split <;> rfl
    have hst : stI l k day known (i + 1) = if day < (amAt l i).day then ((stI l k day known i).1, true) else (stepA (stI l k day known i).1 (amAt l i), false) := by
      rw [stI, if_neg (by rw [h0]; simp), if_neg (by omega)]
    have hW := stI_W hl hk (day := day) (known := known) i (by omega)
    have hlen := stI_len l k day known i
    have hao := hl _ (amAt_mem hi)
    rw [hst]
    generalize stI l k day known i = s at *
    generalize amAt l i = a at *
    obtain ⟨⟨now, nums⟩, ov⟩ := s
    simp only at h0 hlen hW
    subst h0
    clear hsE hst
    refine DoesR.mkT TT_ok (fun _ => false) 100 (ST.of [(6, .rptr [.c (.int .i64 day)]), (12, .ptr 1 0), (13, .ptr 2 0), (14, .ptr 114 0)]
      ((0, .lrec (recOf fn _ _ _ D .ready none) L (csI day)) :: inN ((now, nums), false) ++ [(114, .cells 35 (amC a))]) 1000 51 (fun _ => false)) rfl ?_ (Nat.le_refl 3) (fun E hT hE hN hR => ?_) rfl (fun E hT hE hN hR => ?_)
    · intro x hx
      simp only [List.mem_toArray, List.mem_singleton] at hx
      subst hx
      show 29 < (frL 51 _).length
      rw [frL_length]
      omega
    · have hm : E.P.follows .mixedOrders = true := by rw [hE]; kernel_rfl
      (repeat (first | refine XK.norm rfl rfl ?_ | refine XK.rgnA hT rfl rfl rfl ?_ | refine XK.rgnB hT hm rfl rfl rfl ?_))
      exact XK.nil ⟨rfl, (Weak.of hN rfl rfl rfl (by (repeat' (first | exact rfl | exact AvIs.refl _ | exact trivial | exact fun _ _ => rfl | exact fun _ _ => ⟨rfl, AvIs.refl _⟩ | refine ⟨?_, ?_⟩))) (by (repeat' (first | exact rfl | exact AvIs.refl _ | exact trivial | exact fun _ _ => rfl | exact fun _ _ => ⟨rfl, AvIs.refl _⟩ | refine ⟨?_, ?_⟩))))⟩
    · have hm : E.P.follows .mixedOrders = true := by rw [hE]; kernel_rfl
      (repeat (first | refine XK.norm rfl rfl ?_ | refine XK.rgnA hT rfl rfl rfl ?_ | refine XK.rgnB hT hm rfl rfl rfl ?_)); refine XK.cond rfl (fun h6 => ?_) (fun h6 => ?_) <;> (try simp at h6)
      · rw [if_pos h6]
        (repeat (first | refine XK.norm rfl rfl ?_ | refine XK.rgnA hT rfl rfl rfl ?_ | refine XK.rgnB hT hm rfl rfl rfl ?_))
        refine XK.exitQ ?_
        (refine XK.outX [0, 1, 2, 3] hN rfl rfl rfl ?_ ?_ ?_)
        · (repeat' (first | exact rfl | exact AvIs.refl _ | exact trivial | exact fun _ _ => rfl | exact fun _ _ => ⟨rfl, AvIs.refl _⟩ | refine ⟨?_, ?_⟩))
        · rfl
        · rfl
      · rw [if_neg (by omega)]
        have ap := apply_ok now hW a.patch hao.1.2.2.2 hao.2.1 hao.2.2
        (repeat (first | refine XK.norm rfl rfl ?_ | refine XK.rgnA hT rfl rfl rfl ?_ | refine XK.rgnB hT hm rfl rfl rfl ?_)); refine XK.region ?_; refine XL.goA hT rfl rfl rfl rfl ?_
        refine XL.callKA hE rfl rfl rfl rfl trivial rfl rfl (ap) ?_
        refine XL.goA hT rfl rfl rfl rfl ?_; refine XL.fin ?_; (repeat (first | refine XK.norm rfl rfl ?_ | refine XK.rgnA hT rfl rfl rfl ?_ | refine XK.rgnB hT hm rfl rfl rfl ?_))
        have hsa : stepA (now, nums) a = if (applyR now a.patch).2 = 0 then ((applyR now a.patch).1, nums ++ [a.number]) else (now, nums) := rfl
        rw [hsa]
        generalize applyR now a.patch = r at *
        (repeat (first | refine XK.norm rfl rfl ?_ | refine XK.rgnA hT rfl rfl rfl ?_ | refine XK.rgnB hT hm rfl rfl rfl ?_)); refine XK.cond rfl (fun h7 => ?_) (fun h7 => ?_) <;> (try simp at h7)
        · rw [if_pos h7]
          refine XK.weak (Weak.trans (Weak.steal 500 (k := 3) (s := 2 * nums.length) (f' := fun _ => []) hN rfl rfl rfl) (Weak.of (L := [(12, .ptr 1 0), (13, .ptr 2 0), (14, .ptr 114 0), (15, .ptr 1066 0)])
            (O := [(0, .lrec (recOf fn _ _ _ D .busy none) L (csI day)), (1, .cells 41 (kC now)), (2, .cells 24 [.vec 500 0]), (3, .vec 3 1 (2 * nums.length + 1) 0 (fun _ => [])),
              (500, .vec 3 1 0 nums.length (fun i => [.c (.int .i64 (nums.getD i default))])), (114, .cells 35 (amC a)), (1066, .cells 41 (kC r.1))]) (nx := 3000) (nt := 51) (md := fun _ => false) hN rfl rfl rfl (by (repeat' (first | exact rfl | exact AvIs.refl _ | exact trivial | exact fun _ _ => rfl | exact fun _ _ => ⟨rfl, AvIs.refl _⟩ | refine ⟨?_, ?_⟩))) ⟨⟨rfl, rfl, rfl⟩, by (repeat' (first | exact rfl | exact AvIs.refl _ | exact trivial | exact fun _ _ => rfl | exact fun _ _ => ⟨rfl, AvIs.refl _⟩ | refine ⟨?_, ?_⟩)), ⟨rfl, congrArg (fun x => [x]) (stealG_self 3 (2 * nums.length) 500)⟩, by (repeat' (first | exact rfl | exact AvIs.refl _ | exact trivial | exact fun _ _ => rfl | exact fun _ _ => ⟨rfl, AvIs.refl _⟩ | refine ⟨?_, ?_⟩)), by (repeat' (first | exact rfl | exact AvIs.refl _ | exact trivial | exact fun _ _ => rfl | exact fun _ _ => ⟨rfl, AvIs.refl _⟩ | refine ⟨?_, ?_⟩)), by (repeat' (first | exact rfl | exact AvIs.refl _ | exact trivial | exact fun _ _ => rfl | exact fun _ _ => ⟨rfl, AvIs.refl _⟩ | refine ⟨?_, ?_⟩)), by (repeat' (first | exact rfl | exact AvIs.refl _ | exact trivial | exact fun _ _ => rfl | exact fun _ _ => ⟨rfl, AvIs.refl _⟩ | refine ⟨?_, ?_⟩))⟩)) ?_
          (repeat (first | refine XK.norm rfl rfl ?_ | refine XK.rgnA hT rfl rfl rfl ?_ | refine XK.rgnB hT hm rfl rfl rfl ?_))
          refine XK.nilY (Weak.give (k := 3) (q := 500) (2 * (nums.length + 1)) hN rfl rfl rfl rfl (by show 2 * nums.length + 1 < _; omega)) ?_
          (first | refine XK.outY [0, 1, 2, 3] hN rfl rfl rfl ?_ ?_ ?_ | refine XK.outYN [0, 1, 2, 3] hN rfl rfl rfl ?_ ?_ ?_)
          · exact ⟨⟨rfl, rfl, rfl⟩, by (repeat' (first | exact rfl | exact AvIs.refl _ | exact trivial | exact fun _ _ => rfl | exact fun _ _ => ⟨rfl, AvIs.refl _⟩ | refine ⟨?_, ?_⟩)), ⟨rfl, by simp⟩, ⟨rfl, rfl, by simp⟩, by simp, ints_appV nums a.number _ rfl⟩
          · rfl
          · rfl
        · rw [if_neg h7]
          (repeat (first | refine XK.norm rfl rfl ?_ | refine XK.rgnA hT rfl rfl rfl ?_ | refine XK.rgnB hT hm rfl rfl rfl ?_))
          (first | refine XK.outY [0, 1, 2, 3] hN rfl rfl rfl ?_ ?_ ?_ | refine XK.outYN [0, 1, 2, 3] hN rfl rfl rfl ?_ ?_ ?_)
          · (repeat' (first | exact rfl | exact AvIs.refl _ | exact trivial | exact fun _ _ => rfl | exact fun _ _ => ⟨rfl, AvIs.refl _⟩ | refine ⟨?_, ?_⟩))
          · rfl
          · rfl
  · have hkE : kE (sE.1.1, (0 : Int)) = kV sE.1.1 := if_pos rfl
    rw [hkE]
    refine (show ∀ kk, kk = sE.2 → _ from fun kk hkk => ?_) sE.2 rfl
    cases kk with
    | false =>
      rw [if_pos hkk.symm]
      refine XK.weak (Weak.trans (Weak.stamp (k := 218) (t := 0) hN rfl rfl) (Weak.trans (Weak.of (L := [(8, .ptr 8 0), (12, .ptr 165 0), (13, .ptr 217 0)])
        (O := [(217, .cells 24 [.vec 218 0]), (218, .vec 3 1 0 sE.1.2.length (fun i => [.c (.int .i64 (sE.1.2.getD i default))])), (165, .cells 41 (kC sE.1.1)), (8, .cells 41 [.c (.int .i64 0), .c (.slice none 0 0), .c (.slice none 0 0), .c (.slice none 0 0), .c (.slice none 0 0), .c (.int .i64 0), .c (.slice none 0 0)])]) (nx := 4000) (nt := 51) (md := fun _ => false) hN rfl rfl rfl (by (repeat' (first | exact rfl | exact AvIs.refl _ | exact trivial | exact fun _ _ => rfl | exact fun _ _ => ⟨rfl, AvIs.refl _⟩ | refine ⟨?_, ?_⟩))) ⟨⟨rfl, congrArg (fun x => [x]) (stampG_self 218 (2 * sE.1.2.length) 0)⟩, by (repeat' (first | exact rfl | exact AvIs.refl _ | exact trivial | exact fun _ _ => rfl | exact fun _ _ => ⟨rfl, AvIs.refl _⟩ | refine ⟨?_, ?_⟩)), by (repeat' (first | exact rfl | exact AvIs.refl _ | exact trivial | exact fun _ _ => rfl | exact fun _ _ => ⟨rfl, AvIs.refl _⟩ | refine ⟨?_, ?_⟩)), by (repeat' (first | exact rfl | exact AvIs.refl _ | exact trivial | exact fun _ _ => rfl | exact fun _ _ => ⟨rfl, AvIs.refl _⟩ | refine ⟨?_, ?_⟩))⟩)
        (Weak.trans (Weak.frozen (k := 218) hN rfl rfl) (Weak.of (L := [(8, .ptr 8 0), (12, .ptr 165 0), (13, .ptr 217 0)])
          (O := [(217, .cells 24 [intsV sE.1.2]), (165, .cells 41 (kC sE.1.1)), (8, .cells 41 [.c (.int .i64 0), .c (.slice none 0 0), .c (.slice none 0 0), .c (.slice none 0 0), .c (.slice none 0 0), .c (.int .i64 0), .c (.slice none 0 0)])]) (nx := 4000) (nt := 51) (md := fun _ => false) hN rfl rfl rfl (by (repeat' (first | exact rfl | exact AvIs.refl _ | exact trivial | exact fun _ _ => rfl | exact fun _ _ => ⟨rfl, AvIs.refl _⟩ | refine ⟨?_, ?_⟩))) (by (repeat' (first | exact rfl | exact AvIs.refl _ | exact trivial | exact fun _ _ => rfl | exact fun _ _ => ⟨rfl, AvIs.refl _⟩ | refine ⟨?_, ?_⟩))))))) ?_
      (repeat (first | refine XK.norm rfl rfl ?_ | refine XK.rgnA hT rfl rfl rfl ?_ | refine XK.rgnB hT hm rfl rfl rfl ?_))
      (first | refine XK.out rfl rfl rfl ?_ | refine XK.outN rfl rfl rfl ?_)
      rfl
    | true =>
      rw [if_neg (by rw [← hkk]; simp)]
      refine XK.exit rfl ?_
      refine XK.weak (Weak.trans (Weak.stamp (k := 218) (t := 0) hN rfl rfl) (Weak.trans (Weak.of (L := [(8, .ptr 8 0), (12, .ptr 165 0), (13, .ptr 217 0)])
        (O := [(217, .cells 24 [.vec 218 0]), (218, .vec 3 1 0 sE.1.2.length (fun i => [.c (.int .i64 (sE.1.2.getD i default))])), (165, .cells 41 (kC sE.1.1)), (8, .cells 41 [.c (.int .i64 0), .c (.slice none 0 0), .c (.slice none 0 0), .c (.slice none 0 0), .c (.slice none 0 0), .c (.int .i64 0), .c (.slice none 0 0)])]) (nx := 4000) (nt := 51) (md := fun _ => false) hN rfl rfl rfl (by (repeat' (first | exact rfl | exact AvIs.refl _ | exact trivial | exact fun _ _ => rfl | exact fun _ _ => ⟨rfl, AvIs.refl _⟩ | refine ⟨?_, ?_⟩))) ⟨⟨rfl, congrArg (fun x => [x]) (stampG_self 218 (2 * sE.1.2.length) 0)⟩, by (repeat' (first | exact rfl | exact AvIs.refl _ | exact trivial | exact fun _ _ => rfl | exact fun _ _ => ⟨rfl, AvIs.refl _⟩ | refine ⟨?_, ?_⟩)), by (repeat' (first | exact rfl | exact AvIs.refl _ | exact trivial | exact fun _ _ => rfl | exact fun _ _ => ⟨rfl, AvIs.refl _⟩ | refine ⟨?_, ?_⟩)), by (repeat' (first | exact rfl | exact AvIs.refl _ | exact trivial | exact fun _ _ => rfl | exact fun _ _ => ⟨rfl, AvIs.refl _⟩ | refine ⟨?_, ?_⟩))⟩)
        (Weak.trans (Weak.frozen (k := 218) hN rfl rfl) (Weak.of (L := [(8, .ptr 8 0), (12, .ptr 165 0), (13, .ptr 217 0)])
          (O := [(217, .cells 24 [intsV sE.1.2]), (165, .cells 41 (kC sE.1.1)), (8, .cells 41 [.c (.int .i64 0), .c (.slice none 0 0), .c (.slice none 0 0), .c (.slice none 0 0), .c (.slice none 0 0), .c (.int .i64 0), .c (.slice none 0 0)])]) (nx := 4000) (nt := 51) (md := fun _ => false) hN rfl rfl rfl (by (repeat' (first | exact rfl | exact AvIs.refl _ | exact trivial | exact fun _ _ => rfl | exact fun _ _ => ⟨rfl, AvIs.refl _⟩ | refine ⟨?_, ?_⟩))) (by (repeat' (first | exact rfl | exact AvIs.refl _ | exact trivial | exact fun _ _ => rfl | exact fun _ _ => ⟨rfl, AvIs.refl _⟩ | refine ⟨?_, ?_⟩))))))) ?_
      (repeat (first | refine XK.norm rfl rfl ?_ | refine XK.rgnA hT rfl rfl rfl ?_ | refine XK.rgnB hT hm rfl rfl rfl ?_))
      (first | refine XK.out rfl rfl rfl ?_ | refine XK.outN rfl rfl rfl ?_)
      rfl
theorem inForceR_err {k : K} {l : List Am} {day known : Int} (h : (inForceR k l day known).2 ≠ 0) : (inForceR k l day known).1 = (zeroK, []) := by
  unfold inForceR at h ⊢
  split
  · rfl
  · rename_i h1; rw [if_neg h1] at h; exact absurd rfl h
theorem inForce_ok (k : K) (hk : kW k) (l : List Am) (hl : amsOk l) (day known : Int) : Does Try.prog 12 [kV k, amsV l, .c (.int .i64 day), .c (.int .i64 known)] (.tup [kV (inForceR k l day known).1.1, intsV (inForceR k l day known).1.2, .c (.int .i64 (inForceR k l day known).2)]) :=
  (inForce_ok0 k hk l hl day known).weaken (AvS.tupS ⟨kE_is (fun h => by rw [inForceR_err h]), AvS.refl _, AvS.refl _, trivial⟩)
end Go.Proofs.Ytofdehlikigonaa
end
