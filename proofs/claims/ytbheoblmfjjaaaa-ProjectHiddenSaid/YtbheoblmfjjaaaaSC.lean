import Derived.Test.YtbheoblmfjjaaaaSB
section
/- A row given away. -/
namespace Go.Proofs.Ytbheoblmfjjaaaa
open Go.Eng
set_option maxRecDepth 10000
set_option linter.unusedSimpArgs false
set_option linter.unusedVariables false
/-- A contract of a function that only looks, at a row that its caller gives away: the row's memory stays as it is, and the result may lie in it. -/
theorem Does.give {P : Program} {f : FuncId} {args args1 : List AV} {res : AV} {e sz s n : Nat} {F : Nat → List AV} (F' : Nat → List AV) (h : Does P f args1 res) (ha : AV.mapL (frozenG 0 s sz n F) args = args1) (hk : AV.ksL (fun _ => false) args1 = true) :
    DoesM P f args [.vec e sz s n F] res [.vec e sz (s + 1) 0 F'] := by
  refine ⟨h.1, Nat.le_refl _, fun w G r vs hs hG hm hr => ?_⟩
  have h0 : SatR { Env.at_ P w G 1 r with N := 0 } ⟨argFr args, obL [.vec e sz s n F], 0, vs.size, fun _ => false⟩ { tmps := vs, defers := [] } w r := by
    refine ⟨Keep.refl _ _, rfl, DfrOk.nil, fun k => ?_, hm.ob, hm.no, hm.dis, hm.own, fun k hk => absurd hk (Nat.not_lt_zero k)⟩
    by_cases hk : k < args.length
    · have hx := List.getElem?_eq_getElem hk
      have h1 := hr k _ hx
      simp only [argFr_eq, hx, Option.getD_some]
      exact h1
    · simp only [argFr_eq, List.getElem?_eq_none (Nat.le_of_not_lt hk), Option.getD_none]
      exact .junk
  obtain ⟨ρ1, h1, hsub⟩ := Sub.frozen (k := 0) (e := e) (sz := sz) (s := s) (n := n) (m := 0) (f := F) (E := { Env.at_ P w G 1 r with N := 0 }) rfl rfl rfl _ _ _ h0
  obtain ⟨hv, xs, hg, hown, hf, hrr⟩ := hm.ob 0 _ rfl
  have hn1 : ∀ i, ρ1 i = none := fun i => by
    refine h1.no i ?_
    by_cases hi : i = 0
    · subst hi; simp only [ST.frozen]; exact upd_same _ _ _
    · simp only [ST.frozen, upd_other _ _ hi, Option.map_eq_none_iff]
      cases i with
      | zero => exact absurd rfl hi
      | succ i => rfl
  have hr1 : ∀ i x, args1[i]? = some x → R w (Env.good { Env.at_ P w G 1 r with N := 0 } w ρ1) ρ1 x (vs.getD i undef) := fun i x hx => by
    have := h1.fr i
    rw [← ha] at hx
    obtain ⟨y, hy, rfl⟩ := AV.mapL_get hx
    simp only [ST.frozen, argFr_eq, hy, Option.getD_some] at this
    exact this
  have hl1 : args1.length = args.length := by rw [← ha, AV.mapL_length]
  refine (h.2 w (Env.good { Env.at_ P w G 1 r with N := 0 } w ρ1) vs (by rw [hl1]; exact hs) (fun b hb => hb.2.1) (fun i x hx => (hr1 i x hx).free (AV.ksL_at hk hx))).mono ?_
  rintro e' w' ⟨v, rfl, hkeep, hv'⟩
  refine ⟨v, fun k => if k = 0 then some (.hdr (s + 1) (.slice none 0 0)) else none, rfl, ⟨⟨hkeep.os, hkeep.tape, hkeep.output, hkeep.size, fun b h1 _ => hkeep.block b h1 id⟩, ?_, ?_, ?_, ?_, ?_⟩, ?_⟩
  · intro k o ho
    cases k with
    | zero =>
      injection ho with ho
      subst ho
      exact ⟨_, [], rfl, ⟨by simp, Or.inl ⟨rfl, rfl⟩⟩, fun i hi => absurd hi (Nat.not_lt_zero i), fun i j x hi => absurd hi (Nat.not_lt_zero i)⟩
    | succ k => cases ho
  · intro k hk
    cases k with
    | zero => cases hk
    | succ k => rfl
  · intro k k' x x' b h1 h2 h3
    split at h1
    · injection h1 with h1; subst h1; cases h3
    · cases h1
  · intro k x b h1 h3
    split at h1
    · injection h1 with h1; subst h1; cases h3
    · cases h1
  · intro k hk x hx
    obtain rfl : k = 0 := by
      have hk : k < 1 := hk
      omega
    have hx : r 0 = some x := hx
    rw [hg] at hx
    injection hx with hx
    exact Or.inr ⟨s, hv, s + 1, .slice none 0 0, hx.symm, rfl, Nat.lt_succ_self s⟩
  · refine hv'.tr (fun b hb => ⟨?_, rfl⟩) _ (Le.none _)
    have hno : ∀ k x, (if k = 0 then some (RV.hdr (s + 1) (.slice none 0 0)) else none) = some x → x.block ≠ some b := by
      intro k x h1 h3
      split at h1
      · injection h1 with h1; subst h1; cases h3
      · cases h1
    rcases hb with ⟨h1, h2, h3⟩ | ⟨h1, h2⟩
    · exact ⟨h1, Nat.lt_of_lt_of_le h2 hkeep.size, hno⟩
    · exact ⟨.inr (.inl h1), h2, hno⟩
end Go.Proofs.Ytbheoblmfjjaaaa
end
section
/- The law ProjectHidden. -/
namespace Go.Proofs.Ytbheoblmfjjaaaa
open Go.Eng
set_option maxRecDepth 10000
set_option linter.unusedSimpArgs false
set_option linter.unusedVariables false
theorem list_eqD {α} [Inhabited α] {l r : List α} (h : l.length = r.length) (g : ∀ i, i < l.length → l.getD i default = r.getD i default) : l = r := by
  apply List.ext_getElem h
  intro i h1 h2
  have := g i h1
  rw [List.getD_eq_getElem?_getD, List.getD_eq_getElem?_getD, List.getElem?_eq_getElem h1, List.getElem?_eq_getElem h2] at this
  exact this
theorem sameS_eq {a b : St} (h : sameS a b = true) : a = b := by
  have rall : ∀ {p : Nat → Bool} {n : Nat}, (List.range n).all p = true ↔ ∀ i, i < n → p i = true := by
    intro p n; simp [List.all_eq_true, List.mem_range]
  obtain ⟨d, h1, u, m⟩ := a
  obtain ⟨d', h1', u', m'⟩ := b
  simp only [sameS, eqIS, eqBS, eqMS, Bool.and_eq_true, beq_iff_eq, rall, eqMk_iff] at h
  obtain ⟨⟨⟨a1, a2, a3⟩, a4, a5⟩, a6, a7⟩ := h
  rw [a1, list_eqD a2 a3, list_eqD a4 a5, list_eqD a6 a7]
/-- A trace with an act that is not seen and changes nothing. -/
def insL (l : List Int) (n : Nat) (a : Int) : List Int := l.take n ++ [a] ++ l.drop n
theorem insL_len {l : List Int} {n : Nat} {a : Int} (h : n ≤ l.length) : (insL l n a).length = l.length + 1 := by
  simp [insL]; omega
theorem insL_lt {l : List Int} {n i : Nat} {a : Int} (h : n ≤ l.length) (hi : i < n) : (insL l n a).getD i default = l.getD i default := by
  unfold insL
  rw [List.getD_eq_getElem?_getD, List.getD_eq_getElem?_getD, List.getElem?_append_left (by simp; omega), List.getElem?_append_left (by simp; omega), List.getElem?_take, if_pos hi]
theorem insL_at {l : List Int} {n : Nat} {a : Int} (h : n ≤ l.length) : (insL l n a).getD n default = a := by
  unfold insL
  rw [List.getD_eq_getElem?_getD, List.getElem?_append_left (by simp; omega), List.getElem?_append_right (by simp; omega)]
  simp [Nat.min_eq_left h]
theorem insL_gt {l : List Int} {n i : Nat} {a : Int} (h : n ≤ l.length) (hi : n ≤ i) : (insL l n a).getD (i + 1) default = l.getD i default := by
  unfold insL
  rw [List.getD_eq_getElem?_getD, List.getD_eq_getElem?_getD, List.getElem?_append_right (by simp; omega), List.getElem?_drop]
  congr 2
  simp; omega
theorem pjT_ins_lt {k : K} {ps l : List Int} {n : Nat} {a : Int} (h : n ≤ l.length) : ∀ i, i ≤ n → pjT k ps (insL l n a) i = pjT k ps l i
  | 0, _ => rfl
  | i + 1, hi => by rw [pjT, pjT, pjT_ins_lt h i (by omega), insL_lt h (by omega)]
theorem pjT_ins_gt {k : K} {ps l : List Int} {n : Nat} {a : Int} (h : n ≤ l.length) (h0 : pjF k ps (pjT k ps l n) a = pjT k ps l n) (he : (pjT k ps l n).2.2 = 0) : ∀ j, pjT k ps (insL l n a) (n + j + 1) = pjT k ps l (n + j)
  | 0 => by
    rw [Nat.add_zero, pjT, pjT_ins_lt h n (Nat.le_refl _), insL_at h, if_neg (by simpa using he), h0]
    rfl
  | j + 1 => by
    have ih := pjT_ins_gt h h0 he j
    show pjT k ps (insL l n a) ((n + j + 1) + 1) = pjT k ps l ((n + j) + 1)
    rw [pjT, ih, insL_gt h (by omega)]
    rfl
theorem view_ins {k : K} (hk : kW k) {l : List Int} {p : Int} (h : (jointR k l [p]).2 = 0) (hl : l.length ≤ 60) {n : Nat} (hn : n ≤ l.length) {a : Int} (ha : 0 ≤ a) (h1 : (stepS k (pjT k [p] l n).1 a).2 = 0)
    (h2 : sameS (pjT k [p] l n).1 (stepS k (pjT k [p] l n).1 a).1 = true) (h3 : SeesR k (pjT k [p] l n).1 p a = false) : jointR k (insL l n a) [p] = jointR k l [p] := by
  obtain ⟨z1, z2, z3, z4, z5⟩ := jointR_zero h
  have hp : 0 ≤ p ∧ p < k.parties := by
    simp [badPs, strB] at z2
    omega
  have he := pjT_err hn z4
  have hg := (stepS_go hk h1).1
  have hs := sameS_eq h2
  have h0 : pjF k [p] (pjT k [p] l n) a = pjT k [p] l n := by
    unfold pjF
    rw [if_neg (by simpa using h1), ← hs]
    have : (a == -1 || someB k [p] (pjT k [p] l n).1 a.toNat) = false := by
      rw [show (a == -1) = false by simp; omega, Bool.false_or]
      simp only [SeesR, hg.1, Bool.true_and] at h3
      rw [decide_eq_true hp.1, decide_eq_true hp.2, decide_eq_true ha, decide_eq_true hg.2.2] at h3
      simpa [someB] using h3
    rw [if_neg (by rw [this]; simp)]
    rw [← he]
  have hgt := pjT_ins_gt hn h0 he (l.length - n)
  rw [show n + (l.length - n) = l.length by omega, ← insL_len (a := a) hn] at hgt
  have := jointR_of (k := k) (l := insL l n a) (ps := [p]) z1 z2 (by rw [insL_len hn]; omega) (by rw [hgt]; exact z4)
  rw [this, hgt, ← z5]
  exact Prod.ext rfl h.symm
theorem ins_row {l : List Int} {i : Nat} {a : Int} (hi : i ≤ l.length) (r0 h : Nat → List AV) (hh : h 0 = iC a) : ∀ j, j < l.length + 1 →
    catF (0 + i + 1) (catF (0 + i) (catF 0 r0 (fun i => iC (l.getD i default))) h) (fun x => iC (l.getD (x + i) default)) j = iC ((insL l i a).getD j default) := by
  intro j hj
  have ct : ∀ n f g, catF n f g j = if j < n then f j else g (j - n) := by
    intro n f g
    unfold catF
    by_cases h1 : j < n
    · have : Nat.blt j n = true := by simpa using h1
      rw [this, cond_true, if_pos h1]
    · have : Nat.blt j n = false := by
        cases hb : Nat.blt j n with
        | false => rfl
        | true => simp at hb; exact absurd hb h1
      rw [this, cond_false, if_neg h1]
  rw [ct, ct, ct]
  simp only [Nat.zero_add, Nat.not_lt_zero, if_false, Nat.sub_zero]
  by_cases h1 : j < i
  · rw [if_pos (by omega), if_pos h1, insL_lt hi h1]
  · by_cases h2 : j = i
    · subst h2
      rw [if_pos (by omega), if_neg h1, Nat.sub_self, hh, insL_at hi]
    · obtain ⟨m, rfl⟩ : ∃ m, j = m + 1 := ⟨j - 1, by omega⟩
      rw [if_neg (by omega), insL_gt hi (by omega), show m + 1 - (i + 1) + i = m by omega]
theorem lawPH (k : K) (hk : kW k) (l : List Int) (p f : Int) (hf : inK .u8 f) (a : Int) : Does Try.prog 14 [kV k, intsV l, .c (.int .i64 p), .c (.int .u8 f), .c (.int .i64 a)] (.c (.bool true)) := by
  refine Does.mk (fun d => Nat.beq d 109) TT_ok Try.func14 rfl (by kernel_rfl) Try.ntmps14 rfl rfl fun E hT hE hN hR => ?_
  have hm : E.P.follows .mixedOrders = true := by rw [hE]; kernel_rfl
  refine XK.fact (Sat.rs_len (j := 1) rfl) fun hlen => ?_
  have hm1 : l.length ≤ 9223372036854775807 := hlen.1
  (repeat (first | refine XK.norm rfl rfl ?_ | refine XK.rgnA hT rfl rfl rfl ?_ | refine XK.rgnB hT hm rfl rfl rfl ?_)); refine XK.region ?_; refine XL.goA hT rfl rfl rfl rfl ?_
  refine XL.callLA hE rfl rfl rfl rfl trivial rfl (head36_ok) rfl ?_
  refine XL.goA hT rfl rfl rfl rfl ?_; refine XL.fin ?_; (repeat (first | refine XK.norm rfl rfl ?_ | refine XK.rgnA hT rfl rfl rfl ?_ | refine XK.rgnB hT hm rfl rfl rfl ?_))
  (repeat (first | refine XK.norm rfl rfl ?_ | refine XK.rgnA hT rfl rfl rfl ?_ | refine XK.rgnB hT hm rfl rfl rfl ?_)); refine XK.region ?_; refine XL.goA hT rfl rfl rfl rfl ?_
  refine XL.callLA hE rfl rfl rfl rfl trivial rfl (smallQ_ok k 40) rfl ?_
  refine XL.goA hT rfl rfl rfl rfl ?_; refine XL.fin ?_; (repeat (first | refine XK.norm rfl rfl ?_ | refine XK.rgnA hT rfl rfl rfl ?_ | refine XK.rgnB hT hm rfl rfl rfl ?_))
  (repeat (first | refine XK.norm rfl rfl ?_ | refine XK.rgnA hT rfl rfl rfl ?_ | refine XK.rgnB hT hm rfl rfl rfl ?_)); refine XK.cond rfl (fun h0 => ?_) (fun h0 => ?_)
  · (repeat (first | refine XK.norm rfl rfl ?_ | refine XK.rgnA hT rfl rfl rfl ?_ | refine XK.rgnB hT hm rfl rfl rfl ?_))
    (first | refine XK.out rfl rfl rfl ?_ | refine XK.outN rfl rfl rfl ?_)
    rfl
  · have h0 : (smallQ k 40 = true ∧ (l.length : Int) ≤ 60) ∧ 0 ≤ a := by simpa using h0
    obtain ⟨⟨_, hl60⟩, ha⟩ := h0
    have d1 := view_ok k hk l p
    have hv0 := fun h => jointR_zero (k := k) (l := l) (ps := [p]) h
    have hvi := fun h n hn => view_ins hk (l := l) (p := p) h (by omega) (n := n) hn ha
    have dw := fun n => view_ok k hk (insL l n a) p
    generalize hv : jointR k l [p] = v at *
    (repeat (first | refine XK.norm rfl rfl ?_ | refine XK.rgnA hT rfl rfl rfl ?_ | refine XK.rgnB hT hm rfl rfl rfl ?_)); refine XK.region ?_; refine XL.goA hT rfl rfl rfl rfl ?_
    refine XL.callKA hE rfl rfl rfl rfl trivial rfl rfl (d1) ?_
    refine XL.goA hT rfl rfl rfl rfl ?_; refine XL.fin ?_; (repeat (first | refine XK.norm rfl rfl ?_ | refine XK.rgnA hT rfl rfl rfl ?_ | refine XK.rgnB hT hm rfl rfl rfl ?_))
    (repeat (first | refine XK.norm rfl rfl ?_ | refine XK.rgnA hT rfl rfl rfl ?_ | refine XK.rgnB hT hm rfl rfl rfl ?_)); refine XK.cond rfl (fun h1 => ?_) (fun h1 => ?_) <;> (try simp at h1)
    · (repeat (first | refine XK.norm rfl rfl ?_ | refine XK.rgnA hT rfl rfl rfl ?_ | refine XK.rgnB hT hm rfl rfl rfl ?_))
      (first | refine XK.out rfl rfl rfl ?_ | refine XK.outN rfl rfl rfl ?_)
      rfl
    · obtain ⟨z1, z2, z3, z4, z5⟩ := hv0 h1
      have hf2 : 0 ≤ f ∧ f ≤ 255 := by simp [inK] at hf; omega
      obtain ⟨n, hn⟩ : ∃ n : Nat, f % ((l.length : Int) + 1) = n := ⟨(f % ((l.length : Int) + 1)).toNat, by have := Int.emod_nonneg f (show ((l.length : Int) + 1) ≠ 0 by omega); omega⟩
      have hnl : n ≤ l.length := by have := Int.emod_lt_of_pos f (show (0 : Int) < (l.length : Int) + 1 by omega); omega
      have hn : f.tmod ((l.length : Int) + 1) = n := by rw [Int.tmod_eq_emod_of_nonneg hf2.1]; exact hn
      have hvi := hvi h1 n hnl
      have dw := dw n
      clear hv0 d1
      (repeat (first | refine XK.norm rfl rfl ?_ | refine XK.rgnA hT rfl rfl rfl ?_ | refine XK.rgnB hT hm rfl rfl rfl ?_))
      refine XK.weak (Weak.of (L := [(1, intsV l), (2, .c (.int .i64 p)), (4, .c (.int .i64 a)), (5, .ptr 5 0), (11, .c (.bool true)), (12, intsV v.1), (14, .c (.int .i64 n))]) (O := [(5, .cells 54 (kC k))]) (nx := 1000) (nt := 135) (md := fun d => Nat.beq d 109) hN rfl rfl rfl ⟨AvIs.refl _, rfl, rfl, rfl, rfl, AvIs.refl _, cI hn⟩ (by (repeat' (first | exact rfl | exact AvIs.refl _ | exact trivial | exact fun _ _ => rfl | exact fun _ _ => ⟨rfl, AvIs.refl _⟩ | refine ⟨?_, ?_⟩)))) ?_
      (repeat (first | refine XK.norm rfl rfl ?_ | refine XK.rgnA hT rfl rfl rfl ?_ | refine XK.rgnB hT hm rfl rfl rfl ?_)); refine XK.region ?_; refine XL.goA hT rfl rfl rfl rfl ?_
      refine XL.callKA hE rfl rfl rfl rfl trivial rfl rfl (startS_ok k hk) ?_
      refine XL.goA hT rfl rfl rfl rfl ?_; refine XL.fin ?_; (repeat (first | refine XK.norm rfl rfl ?_ | refine XK.rgnA hT rfl rfl rfl ?_ | refine XK.rgnB hT hm rfl rfl rfl ?_))
      refine XK.loop (ι := Nat) (fun i => ST.of [(1, intsV l), (2, .c (.int .i64 p)), (4, .c (.int .i64 a)), (5, .ptr 5 0), (11, .c (.bool true)), (12, intsV v.1), (14, .c (.int .i64 n)), (15, .ptr 1015 0), (16, .c (.int .i64 0)), (17, .c (.int .i64 i))]
          [(5, .cells 54 (kC k)), (1015, .cells 57 (stC (pjT k [p] l i).1))] 2000 135 (fun d => Nat.beq d 109))
        (fun i => i ≤ n) (fun i => n - i) 0 (Nat.zero_le _)
        (Weak.of hN rfl rfl rfl ⟨AvIs.refl _, rfl, rfl, rfl, rfl, AvIs.refl _, rfl, rfl, cI z1, rfl⟩ (by (repeat' (first | exact rfl | exact AvIs.refl _ | exact trivial | exact fun _ _ => rfl | exact fun _ _ => ⟨rfl, AvIs.refl _⟩ | refine ⟨?_, ?_⟩)))) fun i hi => ?_
      (repeat (first | refine XK.norm rfl rfl ?_ | refine XK.rgnA hT rfl rfl rfl ?_ | refine XK.rgnB hT hm rfl rfl rfl ?_)); refine XK.cond rfl (fun hb => ?_) (fun hb => ?_)
      · have hlt : i < n := by simpa using hb
        obtain ⟨s1, s2, s3, s4, s5, s6⟩ := pj_step hk (ps := [p]) (l := l) (i := i) (pjT_err (show i + 1 ≤ l.length by omega) z4)
        have f1 : l.getD (i : Int).toNat default = l.getD i default := rfl
        have d5 := stepS_ok k hk (pjT k [p] l i).1 (l.getD i default)
        generalize h2 : pjT k [p] l (i + 1) = t2 at *
        generalize h3 : pjT k [p] l i = t1 at *
        generalize l.getD i default = z at *
        obtain ⟨s, r, e⟩ := t1
        dsimp only at *
        generalize stepS k s z = q at *
        (repeat (first | refine XK.norm rfl rfl ?_ | refine XK.rgnA hT rfl rfl rfl ?_ | refine XK.rgnB hT hm rfl rfl rfl ?_))
        (repeat (first | refine XK.norm rfl rfl ?_ | refine XK.rgnA hT rfl rfl rfl ?_ | refine XK.rgnB hT hm rfl rfl rfl ?_)); refine XK.drawn hm ?_; refine XD.goA hT rfl rfl rfl rfl ?_
        rw [f1]
        refine XD.callKA hE rfl rfl rfl rfl trivial rfl rfl (d5) ?_
        refine XD.goA hT rfl rfl rfl rfl ?_; refine XD.fin (by kernel_rfl) ?_; (repeat (first | refine XK.norm rfl rfl ?_ | refine XK.rgnA hT rfl rfl rfl ?_ | refine XK.rgnB hT hm rfl rfl rfl ?_))
        refine XK.inv ⟨i + 1, hlt, ?_, by omega⟩
        rw [h2, s2]
        exact Weak.of hN rfl rfl rfl ⟨AvIs.refl _, rfl, rfl, rfl, rfl, AvIs.refl _, rfl, rfl, cI s1, rfl⟩ (by (repeat' (first | exact rfl | exact AvIs.refl _ | exact trivial | exact fun _ _ => rfl | exact fun _ _ => ⟨rfl, AvIs.refl _⟩ | refine ⟨?_, ?_⟩)))
      · have hle : i = n := by simp at hb; omega
        subst hle
        generalize pjT k [p] l i = t1 at *
        obtain ⟨s, r, e⟩ := t1
        dsimp only at *
        have d5 := stepS_ok k hk s a
        have d7 := sees2_ok k hk s p a
        generalize stepS k s a = q at *
        (repeat (first | refine XK.norm rfl rfl ?_ | refine XK.rgnA hT rfl rfl rfl ?_ | refine XK.rgnB hT hm rfl rfl rfl ?_))
        refine XK.weak (Weak.of (L := [(1, intsV l), (2, .c (.int .i64 p)), (4, .c (.int .i64 a)), (5, .ptr 5 0), (11, .c (.bool true)), (12, intsV v.1), (14, .c (.int .i64 i)), (15, .ptr 1015 0), (16, .c (.int .i64 0))])
          (O := [(5, .cells 54 (kC k)), (1015, .cells 57 (stC s))]) (nx := 3000) (nt := 135) (md := fun d => Nat.beq d 109) hN rfl rfl rfl (by (repeat' (first | exact rfl | exact AvIs.refl _ | exact trivial | exact fun _ _ => rfl | exact fun _ _ => ⟨rfl, AvIs.refl _⟩ | refine ⟨?_, ?_⟩))) (by (repeat' (first | exact rfl | exact AvIs.refl _ | exact trivial | exact fun _ _ => rfl | exact fun _ _ => ⟨rfl, AvIs.refl _⟩ | refine ⟨?_, ?_⟩)))) ?_
        (repeat (first | refine XK.norm rfl rfl ?_ | refine XK.rgnA hT rfl rfl rfl ?_ | refine XK.rgnB hT hm rfl rfl rfl ?_)); refine XK.region ?_; refine XL.goA hT rfl rfl rfl rfl ?_
        refine XL.callKA hE rfl rfl rfl rfl trivial rfl rfl (d5) ?_
        refine XL.goA hT rfl rfl rfl rfl ?_; refine XL.fin ?_; (repeat (first | refine XK.norm rfl rfl ?_ | refine XK.rgnA hT rfl rfl rfl ?_ | refine XK.rgnB hT hm rfl rfl rfl ?_))
        have d6 := sameS_ok s q.1
        (repeat (first | refine XK.norm rfl rfl ?_ | refine XK.rgnA hT rfl rfl rfl ?_ | refine XK.rgnB hT hm rfl rfl rfl ?_)); refine XK.region ?_; refine XL.goA hT rfl rfl rfl rfl ?_
        refine XL.callGA hE rfl rfl rfl rfl rfl rfl rfl rfl (d6) rfl ?_
        refine XL.goA hT rfl rfl rfl rfl ?_
        refine XL.callGA hE rfl rfl rfl rfl rfl rfl rfl rfl (d7) rfl ?_
        refine XL.goA hT rfl rfl rfl rfl ?_; refine XL.fin ?_; (repeat (first | refine XK.norm rfl rfl ?_ | refine XK.rgnA hT rfl rfl rfl ?_ | refine XK.rgnB hT hm rfl rfl rfl ?_))
        (repeat (first | refine XK.norm rfl rfl ?_ | refine XK.rgnA hT rfl rfl rfl ?_ | refine XK.rgnB hT hm rfl rfl rfl ?_)); refine XK.cond rfl (fun h4 => ?_) (fun h4 => ?_)
        · (repeat (first | refine XK.norm rfl rfl ?_ | refine XK.rgnA hT rfl rfl rfl ?_ | refine XK.rgnB hT hm rfl rfl rfl ?_))
          (first | refine XK.out rfl rfl rfl ?_ | refine XK.outN rfl rfl rfl ?_)
          rfl
        · have h4 : (q.2 = 0 ∧ sameS s q.1 = true) ∧ SeesR k s p a = false := by simpa using h4
          obtain ⟨⟨g1, g2⟩, g3⟩ := h4
          rw [hvi g1 g2 g3] at dw
          have d8 := ints36_ok v.1 v.1
          rw [eqIS_self] at d8
          clear d5 d6 d7
          (repeat (first | refine XK.norm rfl rfl ?_ | refine XK.rgnA hT rfl rfl rfl ?_ | refine XK.rgnB hT hm rfl rfl rfl ?_))
          refine XK.weak (Weak.of (L := [(1, intsV l), (2, .c (.int .i64 p)), (4, .c (.int .i64 a)), (5, .ptr 5 0), (11, .c (.bool true)), (12, intsV v.1), (14, .c (.int .i64 i))])
            (O := [(5, .cells 54 (kC k))]) (nx := 4000) (nt := 135) (md := fun d => Nat.beq d 109) hN rfl rfl rfl (by (repeat' (first | exact rfl | exact AvIs.refl _ | exact trivial | exact fun _ _ => rfl | exact fun _ _ => ⟨rfl, AvIs.refl _⟩ | refine ⟨?_, ?_⟩))) (by (repeat' (first | exact rfl | exact AvIs.refl _ | exact trivial | exact fun _ _ => rfl | exact fun _ _ => ⟨rfl, AvIs.refl _⟩ | refine ⟨?_, ?_⟩)))) ?_
          have dg := Does.give (args := [kV k, .vec 0 3, .c (.int .i64 p)]) (e := 3) (sz := 1) (s := 3) (n := (insL l i a).length) (F := fun j => iC ((insL l i a).getD j default)) (fun _ => []) dw rfl rfl
          (repeat (first | refine XK.norm rfl rfl ?_ | refine XK.rgnA hT rfl rfl rfl ?_ | refine XK.rgnB hT hm rfl rfl rfl ?_)); refine XK.drawn hm ?_; refine XD.goA hT rfl rfl rfl rfl ?_
          refine XD.callM [4109] hE rfl rfl rfl rfl trivial (dg) rfl ?_ rfl ?_ rfl rfl rfl ?_
          · exact ⟨AvIs.refl _, rfl, rfl⟩
          · refine ⟨⟨rfl, rfl, rfl⟩, ?_, fun j hj => ?_⟩
            · rw [insL_len hnl]
              show 0 + i + 1 + (l.length - i) = l.length + 1
              omega
            · have hj : j < 0 + i + 1 + (l.length - i) := hj
              exact (ins_row hnl (rowOf [] ty3.size) (rowOf [.c (.int .i64 a)] ty3.size) rfl j (by omega)).symm
          refine XD.goA hT rfl rfl rfl rfl ?_; refine XD.fin (by kernel_rfl) ?_; (repeat (first | refine XK.norm rfl rfl ?_ | refine XK.rgnA hT rfl rfl rfl ?_ | refine XK.rgnB hT hm rfl rfl rfl ?_))
          (repeat (first | refine XK.norm rfl rfl ?_ | refine XK.rgnA hT rfl rfl rfl ?_ | refine XK.rgnB hT hm rfl rfl rfl ?_)); refine XK.region ?_; refine XL.goA hT rfl rfl rfl rfl ?_
          refine XL.callGA hE rfl rfl rfl rfl rfl rfl rfl rfl (d8) rfl ?_
          refine XL.goA hT rfl rfl rfl rfl ?_; refine XL.fin ?_; (repeat (first | refine XK.norm rfl rfl ?_ | refine XK.rgnA hT rfl rfl rfl ?_ | refine XK.rgnB hT hm rfl rfl rfl ?_))
          (first | refine XK.out rfl rfl rfl ?_ | refine XK.outN rfl rfl rfl ?_)
          rw [h1]
          rfl
end Go.Proofs.Ytbheoblmfjjaaaa
end
