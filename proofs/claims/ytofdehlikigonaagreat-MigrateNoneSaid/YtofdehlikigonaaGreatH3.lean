import Derived.Test.YtofdehlikigonaaGreatH2
section
/- Contracts: package migrate: migrated. -/
namespace Go.Proofs.YtofdehlikigonaaGreat
open Go.Eng
set_option maxRecDepth 10000
set_option linter.unusedSimpArgs false
set_option linter.unusedVariables false
noncomputable def migM (k : K) (p : Pt) (s : St) : Nat → Mk := mkTo k p s.holders (padM s.marks) (listP k p) (listP k p).length
noncomputable def migW (k : K) (p : Pt) (s : St) : Wk := startW (applyR k p).1 ⟨s.day, fun i => s.holders.getD i default, fun i => s.used.getD i default, migM k p s⟩
noncomputable def migS (k : K) (p : Pt) (s : St) : St := ⟨s.day, s.holders, s.used, (List.range (applyR k p).1.clauses.length).map (migW k p s).mark⟩
noncomputable def migR (k : K) (p : Pt) (s : St) : (K × St) × Int := if (applyR k p).2 ≠ 0 then ((zeroK, zS), (applyR k p).2) else (((applyR k p).1, migS k p s), 0)
def nilK : AV := .agg [.c (.int .i64 0), .c (.slice none 0 0), .c (.slice none 0 0), .c (.slice none 0 0), .c (.slice none 0 0), .c (.int .i64 0), .c (.slice none 0 0)]
theorem migratedErr_ok (k : K) (hk : kW k) (p : Pt) (hp : ptW p) (hc : p.clauses.length ≤ 1000000) (hs : p.new.start.length ≤ 1000000) (s : St) (h : (applyR k p).2 ≠ 0) :
    Does Tryz.prog 24 [kV k, ptV p, stV s] (.tup [nilK, nilS, .c (.int .i64 (applyR k p).2)]) := by
  have ap := apply_ok k hk p hp hc hs
  generalize applyR k p = r at *
  refine Does.mk (fun _ => false) TT_ok Tryz.func24 rfl (by kernel_rfl) Tryz.ntmps24 rfl rfl fun E hT hE hN hR => ?_
  have hm : E.P.follows .mixedOrders = true := by rw [hE]; kernel_rfl
  (repeat (first | refine XK.norm rfl rfl ?_ | refine XK.rgnA hT rfl rfl rfl ?_ | refine XK.rgnB hT hm rfl rfl rfl ?_)); refine XK.region ?_; refine XL.goA hT rfl rfl rfl rfl ?_
  refine XL.callKA hE rfl rfl rfl rfl trivial rfl rfl (ap) ?_
  refine XL.goA hT rfl rfl rfl rfl ?_; refine XL.fin ?_; (repeat (first | refine XK.norm rfl rfl ?_ | refine XK.rgnA hT rfl rfl rfl ?_ | refine XK.rgnB hT hm rfl rfl rfl ?_))
  (repeat (first | refine XK.norm rfl rfl ?_ | refine XK.rgnA hT rfl rfl rfl ?_ | refine XK.rgnB hT hm rfl rfl rfl ?_)); refine XK.cond rfl (fun h1 => ?_) (fun h1 => ?_) <;> (try simp at h1)
  · (repeat (first | refine XK.norm rfl rfl ?_ | refine XK.rgnA hT rfl rfl rfl ?_ | refine XK.rgnB hT hm rfl rfl rfl ?_))
    (first | refine XK.out rfl rfl rfl ?_ | refine XK.outN rfl rfl rfl ?_)
    rfl
  · exact absurd h1 h
theorem mk_row (k : K) (p : Pt) (hold : List Int) (m0 : Nat → Mk) (L : List Int) (i n : Nat) (hn : L.getD i default = (n : Int)) (j : Nat) :
    mkC (mkTo k p hold m0 L (i + 1) j) = setRowF (fun j => mkC (mkTo k p hold m0 L i j)) n 0 (mkC (chgM k p hold n (mkTo k p hold m0 L i n))) j := by
  unfold setRowF
  show mkC (if j = (L.getD i default).toNat then _ else _) = _
  rw [hn, show ((n : Nat) : Int).toNat = n from rfl]
  by_cases h : j = n
  · subst h
    rw [if_pos rfl, show Nat.beq j j = true by simp]
    rfl
  · rw [if_neg h, beq_false h]; rfl
theorem pad_B {k : K} (hk : KFacts k) {s : St} (hv : validS k s = true) (n : Nat) : lB (padM s.marks n) := by
  unfold padM
  split
  · rename_i h
    obtain ⟨_, _, _, l3, _, _, _, l8⟩ := validS_len hv
    have := l8 n h
    simp only [Bool.and_eq_true] at this
    exact markB_left hk (by omega) this.1
  · exact ⟨by decide, by decide⟩
set_option maxHeartbeats 1000000 in
theorem migratedGo_ok (k : K) (hk : kW k) (p : Pt) (hp : ptW p) (hc : p.clauses.length ≤ 1000000) (hs : p.new.start.length ≤ 1000000) (s : St) (hv : validS k s = true) (h : (applyR k p).2 = 0) :
    Does Tryz.prog 24 [kV k, ptV p, stV s] (.tup [kV (applyR k p).1, .agg [.c (.int .i64 s.day), intsV s.holders, boolsV s.used, .rs 5 (applyR k p).1.clauses.length (fun i => mkC ((migW k p s).mark i))], .c (.int .i64 0)]) := by
  have ap := apply_ok k hk p hp hc hs
  have hF := patch_facts hk hp h
  have hl := validS_len hv
  obtain ⟨l0, l1, l2, l3, -⟩ := hl
  have b1 := hF.kk.nh
  have b2 := hF.kk.na
  have b3 := hF.kk.nc
  have b4 := hF.kn.nc
  have hlen := hF.len
  have hle : s.marks.length ≤ (applyR k p).1.clauses.length := by rw [hlen, l3]; split <;> omega
  have cs := copiedState_ok s (applyR k p).1.clauses.length hle (by omega) (by omega) (by omega)
  have ch := change_ok k p s.holders
  have hmig : (migW k p s) = startW (applyR k p).1 ⟨s.day, fun i => s.holders.getD i default, fun i => s.used.getD i default, migM k p s⟩ := rfl
  have hst := mstart_ok (applyR k p).1 hF.kn s.day s.holders s.used (by rw [l1, hF.eq]) ⟨s.day, fun i => s.holders.getD i default, fun i => s.used.getD i default, migM k p s⟩ (fun _ => rfl)
  rw [← hmig] at hst
  generalize hmw : migW k p s = mw at *
  clear hmig
  rw [h] at ap
  generalize hr : (applyR k p).1 = k' at *
  refine Does.mk (fun _ => false) TT_ok Tryz.func24 rfl (by kernel_rfl) Tryz.ntmps24 rfl rfl fun E hT hE hN hR => ?_
  have hm : E.P.follows .mixedOrders = true := by rw [hE]; kernel_rfl
  (repeat (first | refine XK.norm rfl rfl ?_ | refine XK.rgnA hT rfl rfl rfl ?_ | refine XK.rgnB hT hm rfl rfl rfl ?_)); refine XK.region ?_; refine XL.goA hT rfl rfl rfl rfl ?_
  refine XL.callKA hE rfl rfl rfl rfl trivial rfl rfl (ap) ?_
  refine XL.goA hT rfl rfl rfl rfl ?_; refine XL.fin ?_; (repeat (first | refine XK.norm rfl rfl ?_ | refine XK.rgnA hT rfl rfl rfl ?_ | refine XK.rgnB hT hm rfl rfl rfl ?_))
  (repeat (first | refine XK.norm rfl rfl ?_ | refine XK.rgnA hT rfl rfl rfl ?_ | refine XK.rgnB hT hm rfl rfl rfl ?_)); refine XK.cond rfl (fun h1 => ?_) (fun h1 => ?_)
  · cases h1
  clear h1
  (repeat (first | refine XK.norm rfl rfl ?_ | refine XK.rgnA hT rfl rfl rfl ?_ | refine XK.rgnB hT hm rfl rfl rfl ?_))
  (repeat (first | refine XK.norm rfl rfl ?_ | refine XK.rgnA hT rfl rfl rfl ?_ | refine XK.rgnB hT hm rfl rfl rfl ?_)); refine XK.region ?_; refine XL.goA hT rfl rfl rfl rfl ?_
  refine XL.callMA [700, 701, 702, 703] hE rfl rfl rfl rfl trivial (cs) rfl rfl rfl rfl rfl ?_
  refine XL.goA hT rfl rfl rfl rfl ?_; refine XL.fin ?_; (repeat (first | refine XK.norm rfl rfl ?_ | refine XK.rgnA hT rfl rfl rfl ?_ | refine XK.rgnB hT hm rfl rfl rfl ?_))
  refine XK.weak (Weak.trans (Weak.of (L := [(3, .ptr 3 0), (4, .ptr 4 0), (6, .ptr 6 0), (7, .ptr 7 0), (8, .c (.int .i64 0)), (9, .ptr 79 0), (11, .ptr 221 0)])
    (O := [(3, .cells 27 (kC k)), (4, .cells 34 (ptC p)), (6, .cells 27 [.c (.int .i64 0), .c (.slice none 0 0), .c (.slice none 0 0), .c (.slice none 0 0), .c (.slice none 0 0), .c (.int .i64 0), .c (.slice none 0 0)]), (7, .cells 38 [.c (.int .i64 0), .c (.slice none 0 0), .c (.slice none 0 0), .c (.slice none 0 0)]),
      (79, .cells 27 (kC k')), (221, .cells 38 [.c (.int .i64 s.day), .vec 700 0, .vec 701 0, .vec 702 0]), (700, hRow s.holders), (701, bRow s.used), (702, mRow k'.clauses.length (padM s.marks))]) (nx := 1000) (nt := 70) (md := fun _ => false) hN rfl rfl rfl (by (repeat' (first | exact rfl | exact AvIs.refl _ | exact trivial | exact fun _ _ => rfl | exact fun _ _ => ⟨rfl, AvIs.refl _⟩ | refine ⟨?_, ?_⟩))) (by (repeat' (first | exact rfl | exact AvIs.refl _ | exact trivial | exact fun _ _ => rfl | exact fun _ _ => ⟨rfl, AvIs.refl _⟩ | refine ⟨?_, ?_⟩))))
    (Weak.trans (Weak.frozen (k := 700) hN rfl rfl) (Weak.trans (Weak.frozen (k := 701) hN rfl rfl) (Weak.of (L := [(3, .ptr 3 0), (4, .ptr 4 0), (6, .ptr 6 0), (7, .ptr 7 0), (8, .c (.int .i64 0)), (9, .ptr 79 0), (11, .ptr 221 0)])
    (O := [(3, .cells 27 (kC k)), (4, .cells 34 (ptC p)), (6, .cells 27 [.c (.int .i64 0), .c (.slice none 0 0), .c (.slice none 0 0), .c (.slice none 0 0), .c (.slice none 0 0), .c (.int .i64 0), .c (.slice none 0 0)]), (7, .cells 38 [.c (.int .i64 0), .c (.slice none 0 0), .c (.slice none 0 0), .c (.slice none 0 0)]),
      (79, .cells 27 (kC k')), (221, stO s.day s.holders s.used 702), (702, mRow k'.clauses.length (padM s.marks))]) (nx := 1000) (nt := 70) (md := fun _ => false) hN rfl rfl rfl (by (repeat' (first | exact rfl | exact AvIs.refl _ | exact trivial | exact fun _ _ => rfl | exact fun _ _ => ⟨rfl, AvIs.refl _⟩ | refine ⟨?_, ?_⟩))) (by (repeat' (first | exact rfl | exact AvIs.refl _ | exact trivial | exact fun _ _ => rfl | exact fun _ _ => ⟨rfl, AvIs.refl _⟩ | refine ⟨?_, ?_⟩))))))) ?_
  have hL := hF.lok
  have hpad := pad_B hF.kk hv
  have hrole : ∀ x, x < k'.clauses.length → clAt k' x = p.new → p.new.kind ≠ 4 → 0 ≤ p.new.role ∧ p.new.role < s.holders.length := fun x hx he h4 => by
    have hkn := hF.kn
    have hke := hF.eq
    rw [hr] at hkn hke
    have hkw := kindW (hkn.clB hx).2.2.1
    rw [he] at hkw
    rcases hkw with h | h
    · exact absurd h.1 h4
    · rw [l1]; rw [hke] at h; exact h.1
  have hOld : ∀ i, i < (listP k p).length → ¬ p.kind = 1 → ((listP k p).getD i default).toNat < k.clauses.length := fun i hi h1 => hF.old h1 i hi
  rw [hr] at hL
  have hmg : migM k p s = mkTo k p s.holders (padM s.marks) (listP k p) (listP k p).length := rfl
  by_cases k5 : p.kind = 5
  · have hk1 : ¬ p.kind = 1 := by omega
    rw [chgV, if_pos k5] at ch
    have hcg : ∀ n m, chgM k p s.holders n m = spanM p.days (clAt k n) m := fun n m => by unfold chgM; rw [if_pos k5]
    (repeat (first | refine XK.norm rfl rfl ?_ | refine XK.rgnA hT rfl rfl rfl ?_ | refine XK.rgnB hT hm rfl rfl rfl ?_)); refine XK.region ?_; refine XL.goA hT rfl rfl rfl rfl ?_
    refine XL.callKA hE rfl rfl rfl rfl trivial rfl rfl (ch) ?_
    refine XL.goA hT rfl rfl rfl rfl ?_; refine XL.fin ?_; (repeat (first | refine XK.norm rfl rfl ?_ | refine XK.rgnA hT rfl rfl rfl ?_ | refine XK.rgnB hT hm rfl rfl rfl ?_))
    (repeat (first | refine XK.norm rfl rfl ?_ | refine XK.rgnA hT rfl rfl rfl ?_ | refine XK.rgnB hT hm rfl rfl rfl ?_)); refine XK.cond rfl (fun h2 => ?_) (fun h2 => ?_) <;> (try simp at h2)
    · exact absurd h2 hk1
    have hLp : listP k p = p.clauses := if_neg hk1
    rw [hLp] at hL hmg hOld
    generalize p.clauses = L at *
    (repeat (first | refine XK.norm rfl rfl ?_ | refine XK.rgnA hT rfl rfl rfl ?_ | refine XK.rgnB hT hm rfl rfl rfl ?_))
    refine XK.loop (ι := Nat) (fun i => ST.of [(6, .ptr 6 0), (7, .ptr 7 0), (8, .c (.int .i64 0)), (9, .ptr 79 0), (11, .ptr 221 0), (12, .fn (.func 65) [] [.rptr (ptC p), .rptr (kC k)]), (46, intsV L), (47, .c (.int .i64 L.length)), (48, .c (.int .i64 i))]
      [(6, .cells 27 [.c (.int .i64 0), .c (.slice none 0 0), .c (.slice none 0 0), .c (.slice none 0 0), .c (.slice none 0 0), .c (.int .i64 0), .c (.slice none 0 0)]), (7, .cells 38 [.c (.int .i64 0), .c (.slice none 0 0), .c (.slice none 0 0), .c (.slice none 0 0)]), (79, .cells 27 (kC k')), (221, stO s.day s.holders s.used 702), (702, mRow k'.clauses.length (mkTo k p s.holders (padM s.marks) L i))] 2000 70 (fun _ => false))
      (fun i => i ≤ L.length) (fun i => L.length - i) 0 (Nat.zero_le _) (Weak.of hN rfl rfl rfl (by (repeat' (first | exact rfl | exact AvIs.refl _ | exact trivial | exact fun _ _ => rfl | exact fun _ _ => ⟨rfl, AvIs.refl _⟩ | refine ⟨?_, ?_⟩))) (by (repeat' (first | exact rfl | exact AvIs.refl _ | exact trivial | exact fun _ _ => rfl | exact fun _ _ => ⟨rfl, AvIs.refl _⟩ | refine ⟨?_, ?_⟩)))) fun i hi => ?_
    (repeat (first | refine XK.norm rfl rfl ?_ | refine XK.rgnA hT rfl rfl rfl ?_ | refine XK.rgnB hT hm rfl rfl rfl ?_)); refine XK.cond rfl (fun hlt => ?_) (fun hlt => ?_) <;> (try simp at hlt)
    · obtain ⟨hx1, hx2⟩ := hL.rng i hlt
      have hat := hL.at (k := k) (p := p) (hold := s.holders) (m0 := padM s.marks) hlt
      have hOl := hOld i hlt
      obtain ⟨n, hn⟩ := Int.eq_ofNat_of_zero_le hx1
      have fx : L.getD (i : Int).toNat default = (n : Int) := hn
      have hrow := mk_row k p s.holders (padM s.marks) L i n hn
      rw [hn] at hx2 hat hOl
      generalize hmm : mkTo k p s.holders (padM s.marks) L i = mm at *
      have hmn : mm n = padM s.marks n := hat
      have hc := change1_ok k p n (hOl hk1) (mm n) (dB_of hF.kk (hOl hk1)) (by have := hF.days k5; omega) (by rw [hmn]; exact hpad n)
      rw [← hcg] at hc
      (repeat (first | refine XK.norm rfl rfl ?_ | refine XK.rgnA hT rfl rfl rfl ?_ | refine XK.rgnB hT hm rfl rfl rfl ?_))
      rw [fx]
      (repeat (first | refine XK.norm rfl rfl ?_ | refine XK.rgnA hT rfl rfl rfl ?_ | refine XK.rgnB hT hm rfl rfl rfl ?_)); refine XK.drawn hm ?_; refine XD.goA hT rfl rfl rfl rfl ?_
      refine XD.callLA hE rfl rfl rfl rfl trivial rfl (hc) rfl ?_
      refine XD.goA hT rfl rfl rfl rfl ?_; refine XD.fin (by kernel_rfl) ?_; (repeat (first | refine XK.norm rfl rfl ?_ | refine XK.rgnA hT rfl rfl rfl ?_ | refine XK.rgnB hT hm rfl rfl rfl ?_))
      refine XK.inv ⟨i + 1, hlt, ?_, by omega⟩
      exact Weak.of hN rfl rfl rfl (by (repeat' (first | exact rfl | exact AvIs.refl _ | exact trivial | exact fun _ _ => rfl | exact fun _ _ => ⟨rfl, AvIs.refl _⟩ | refine ⟨?_, ?_⟩))) ⟨by (repeat' (first | exact rfl | exact AvIs.refl _ | exact trivial | exact fun _ _ => rfl | exact fun _ _ => ⟨rfl, AvIs.refl _⟩ | refine ⟨?_, ?_⟩)), by (repeat' (first | exact rfl | exact AvIs.refl _ | exact trivial | exact fun _ _ => rfl | exact fun _ _ => ⟨rfl, AvIs.refl _⟩ | refine ⟨?_, ?_⟩)), by (repeat' (first | exact rfl | exact AvIs.refl _ | exact trivial | exact fun _ _ => rfl | exact fun _ _ => ⟨rfl, AvIs.refl _⟩ | refine ⟨?_, ?_⟩)), by (repeat' (first | exact rfl | exact AvIs.refl _ | exact trivial | exact fun _ _ => rfl | exact fun _ _ => ⟨rfl, AvIs.refl _⟩ | refine ⟨?_, ?_⟩)), ⟨rfl, rfl, rfl⟩, rfl, fun j hj => hrow j⟩
    · have hie : i = L.length := by omega
      subst hie
      rw [← hmg]
      (repeat (first | refine XK.norm rfl rfl ?_ | refine XK.rgnA hT rfl rfl rfl ?_ | refine XK.rgnB hT hm rfl rfl rfl ?_)); refine XK.region ?_; refine XL.goA hT rfl rfl rfl rfl ?_
      refine XL.callMA [702] hE rfl rfl rfl rfl trivial (hst) rfl rfl rfl rfl rfl ?_
      refine XL.goA hT rfl rfl rfl rfl ?_; refine XL.fin ?_; (repeat (first | refine XK.norm rfl rfl ?_ | refine XK.rgnA hT rfl rfl rfl ?_ | refine XK.rgnB hT hm rfl rfl rfl ?_))
      refine XK.weak (Weak.frozen (k := 702) hN rfl rfl) ?_
      (repeat (first | refine XK.norm rfl rfl ?_ | refine XK.rgnA hT rfl rfl rfl ?_ | refine XK.rgnB hT hm rfl rfl rfl ?_))
      (first | refine XK.out rfl rfl rfl ?_ | refine XK.outN rfl rfl rfl ?_)
      rfl
  by_cases k2 : p.kind = 2
  · have hk1 : ¬ p.kind = 1 := by omega
    obtain ⟨x0, hx0, hx01, hx02, hx03⟩ := hF.one k2
    have hx04 : x0.toNat < k'.clauses.length := by rw [hlen, if_neg hk1]; exact hx02
    have hnd : dB p.new := by rw [← hx03]; exact dB_of hF.kn (by rw [hr]; exact hx04)
    have hnr : p.new.kind ≠ 4 → 0 ≤ p.new.role ∧ p.new.role < s.holders.length := fun h4 => hrole x0.toNat hx04 (by rw [← hr]; exact hx03) h4
    rw [chgV, if_neg k5, if_pos k2] at ch
    have hcg : ∀ n m, chgM k p s.holders n m = replM p.new (clAt k n) m s.holders := fun n m => by unfold chgM; rw [if_neg k5, if_pos k2]
    (repeat (first | refine XK.norm rfl rfl ?_ | refine XK.rgnA hT rfl rfl rfl ?_ | refine XK.rgnB hT hm rfl rfl rfl ?_)); refine XK.region ?_; refine XL.goA hT rfl rfl rfl rfl ?_
    refine XL.callKA hE rfl rfl rfl rfl trivial rfl rfl (ch) ?_
    refine XL.goA hT rfl rfl rfl rfl ?_; refine XL.fin ?_; (repeat (first | refine XK.norm rfl rfl ?_ | refine XK.rgnA hT rfl rfl rfl ?_ | refine XK.rgnB hT hm rfl rfl rfl ?_))
    (repeat (first | refine XK.norm rfl rfl ?_ | refine XK.rgnA hT rfl rfl rfl ?_ | refine XK.rgnB hT hm rfl rfl rfl ?_)); refine XK.cond rfl (fun h2 => ?_) (fun h2 => ?_) <;> (try simp at h2)
    · exact absurd h2 hk1
    have hLp : listP k p = p.clauses := if_neg hk1
    rw [hLp] at hL hmg hOld
    generalize p.clauses = L at *
    (repeat (first | refine XK.norm rfl rfl ?_ | refine XK.rgnA hT rfl rfl rfl ?_ | refine XK.rgnB hT hm rfl rfl rfl ?_))
    refine XK.loop (ι := Nat) (fun i => ST.of [(6, .ptr 6 0), (7, .ptr 7 0), (8, .c (.int .i64 0)), (9, .ptr 79 0), (11, .ptr 221 0), (12, .fn (.func 66) [] [.rptr (ptC p), .rptr (kC k), .rptr [intsV s.holders]]), (46, intsV L), (47, .c (.int .i64 L.length)), (48, .c (.int .i64 i))]
      [(6, .cells 27 [.c (.int .i64 0), .c (.slice none 0 0), .c (.slice none 0 0), .c (.slice none 0 0), .c (.slice none 0 0), .c (.int .i64 0), .c (.slice none 0 0)]), (7, .cells 38 [.c (.int .i64 0), .c (.slice none 0 0), .c (.slice none 0 0), .c (.slice none 0 0)]), (79, .cells 27 (kC k')), (221, stO s.day s.holders s.used 702), (702, mRow k'.clauses.length (mkTo k p s.holders (padM s.marks) L i))] 2000 70 (fun _ => false))
      (fun i => i ≤ L.length) (fun i => L.length - i) 0 (Nat.zero_le _) (Weak.of hN rfl rfl rfl (by (repeat' (first | exact rfl | exact AvIs.refl _ | exact trivial | exact fun _ _ => rfl | exact fun _ _ => ⟨rfl, AvIs.refl _⟩ | refine ⟨?_, ?_⟩))) (by (repeat' (first | exact rfl | exact AvIs.refl _ | exact trivial | exact fun _ _ => rfl | exact fun _ _ => ⟨rfl, AvIs.refl _⟩ | refine ⟨?_, ?_⟩)))) fun i hi => ?_
    (repeat (first | refine XK.norm rfl rfl ?_ | refine XK.rgnA hT rfl rfl rfl ?_ | refine XK.rgnB hT hm rfl rfl rfl ?_)); refine XK.cond rfl (fun hlt => ?_) (fun hlt => ?_) <;> (try simp at hlt)
    · obtain ⟨hx1, hx2⟩ := hL.rng i hlt
      have hat := hL.at (k := k) (p := p) (hold := s.holders) (m0 := padM s.marks) hlt
      have hOl := hOld i hlt
      obtain ⟨n, hn⟩ := Int.eq_ofNat_of_zero_le hx1
      have fx : L.getD (i : Int).toNat default = (n : Int) := hn
      have hrow := mk_row k p s.holders (padM s.marks) L i n hn
      rw [hn] at hx2 hat hOl
      generalize hmm : mkTo k p s.holders (padM s.marks) L i = mm at *
      have hmn : mm n = padM s.marks n := hat
      have hc := change2_ok k p s.holders n (hOl hk1) (mm n) (dB_of hF.kk (hOl hk1)) hnd (by rw [hmn]; exact hpad n) hnr
      rw [← hcg] at hc
      (repeat (first | refine XK.norm rfl rfl ?_ | refine XK.rgnA hT rfl rfl rfl ?_ | refine XK.rgnB hT hm rfl rfl rfl ?_))
      rw [fx]
      (repeat (first | refine XK.norm rfl rfl ?_ | refine XK.rgnA hT rfl rfl rfl ?_ | refine XK.rgnB hT hm rfl rfl rfl ?_)); refine XK.drawn hm ?_; refine XD.goA hT rfl rfl rfl rfl ?_
      refine XD.callLA hE rfl rfl rfl rfl trivial rfl (hc) rfl ?_
      refine XD.goA hT rfl rfl rfl rfl ?_; refine XD.fin (by kernel_rfl) ?_; (repeat (first | refine XK.norm rfl rfl ?_ | refine XK.rgnA hT rfl rfl rfl ?_ | refine XK.rgnB hT hm rfl rfl rfl ?_))
      refine XK.inv ⟨i + 1, hlt, ?_, by omega⟩
      exact Weak.of hN rfl rfl rfl (by (repeat' (first | exact rfl | exact AvIs.refl _ | exact trivial | exact fun _ _ => rfl | exact fun _ _ => ⟨rfl, AvIs.refl _⟩ | refine ⟨?_, ?_⟩))) ⟨by (repeat' (first | exact rfl | exact AvIs.refl _ | exact trivial | exact fun _ _ => rfl | exact fun _ _ => ⟨rfl, AvIs.refl _⟩ | refine ⟨?_, ?_⟩)), by (repeat' (first | exact rfl | exact AvIs.refl _ | exact trivial | exact fun _ _ => rfl | exact fun _ _ => ⟨rfl, AvIs.refl _⟩ | refine ⟨?_, ?_⟩)), by (repeat' (first | exact rfl | exact AvIs.refl _ | exact trivial | exact fun _ _ => rfl | exact fun _ _ => ⟨rfl, AvIs.refl _⟩ | refine ⟨?_, ?_⟩)), by (repeat' (first | exact rfl | exact AvIs.refl _ | exact trivial | exact fun _ _ => rfl | exact fun _ _ => ⟨rfl, AvIs.refl _⟩ | refine ⟨?_, ?_⟩)), ⟨rfl, rfl, rfl⟩, rfl, fun j hj => hrow j⟩
    · have hie : i = L.length := by omega
      subst hie
      rw [← hmg]
      (repeat (first | refine XK.norm rfl rfl ?_ | refine XK.rgnA hT rfl rfl rfl ?_ | refine XK.rgnB hT hm rfl rfl rfl ?_)); refine XK.region ?_; refine XL.goA hT rfl rfl rfl rfl ?_
      refine XL.callMA [702] hE rfl rfl rfl rfl trivial (hst) rfl rfl rfl rfl rfl ?_
      refine XL.goA hT rfl rfl rfl rfl ?_; refine XL.fin ?_; (repeat (first | refine XK.norm rfl rfl ?_ | refine XK.rgnA hT rfl rfl rfl ?_ | refine XK.rgnB hT hm rfl rfl rfl ?_))
      refine XK.weak (Weak.frozen (k := 702) hN rfl rfl) ?_
      (repeat (first | refine XK.norm rfl rfl ?_ | refine XK.rgnA hT rfl rfl rfl ?_ | refine XK.rgnB hT hm rfl rfl rfl ?_))
      (first | refine XK.out rfl rfl rfl ?_ | refine XK.outN rfl rfl rfl ?_)
      rfl
  by_cases k1 : p.kind = 1
  · have hk1 := k1
    rw [chgV, if_neg k5, if_neg k2, if_pos k1] at ch
    have hcg : ∀ n m, chgM k p s.holders n m = addM p.new m := fun n m => by unfold chgM; rw [if_neg k5, if_neg k2, if_pos k1]
    (repeat (first | refine XK.norm rfl rfl ?_ | refine XK.rgnA hT rfl rfl rfl ?_ | refine XK.rgnB hT hm rfl rfl rfl ?_)); refine XK.region ?_; refine XL.goA hT rfl rfl rfl rfl ?_
    refine XL.callKA hE rfl rfl rfl rfl trivial rfl rfl (ch) ?_
    refine XL.goA hT rfl rfl rfl rfl ?_; refine XL.fin ?_; (repeat (first | refine XK.norm rfl rfl ?_ | refine XK.rgnA hT rfl rfl rfl ?_ | refine XK.rgnB hT hm rfl rfl rfl ?_))
    (repeat (first | refine XK.norm rfl rfl ?_ | refine XK.rgnA hT rfl rfl rfl ?_ | refine XK.rgnB hT hm rfl rfl rfl ?_)); refine XK.cond rfl (fun h2 => ?_) (fun h2 => ?_) <;> (try simp at h2)
    · have hLp : listP k p = [(k.clauses.length : Int)] := if_pos h2
      rw [hLp] at hL hmg hOld
      (repeat (first | refine XK.norm rfl rfl ?_ | refine XK.rgnA hT rfl rfl rfl ?_ | refine XK.rgnB hT hm rfl rfl rfl ?_))
      generalize hLL : [(k.clauses.length : Int)] = L at *
      refine XK.loop (ι := Nat) (fun i => ST.of [(6, .ptr 6 0), (7, .ptr 7 0), (8, .c (.int .i64 0)), (9, .ptr 79 0), (11, .ptr 221 0), (12, .fn (.func 71) [] [.rptr (ptC p)]), (46, intsV L), (47, .c (.int .i64 L.length)), (48, .c (.int .i64 i))]
        [(6, .cells 27 [.c (.int .i64 0), .c (.slice none 0 0), .c (.slice none 0 0), .c (.slice none 0 0), .c (.slice none 0 0), .c (.int .i64 0), .c (.slice none 0 0)]), (7, .cells 38 [.c (.int .i64 0), .c (.slice none 0 0), .c (.slice none 0 0), .c (.slice none 0 0)]), (79, .cells 27 (kC k')), (221, stO s.day s.holders s.used 702), (702, mRow k'.clauses.length (mkTo k p s.holders (padM s.marks) L i))] 2000 70 (fun _ => false))
        (fun i => i ≤ L.length) (fun i => L.length - i) 0 (Nat.zero_le _) (Weak.of hN rfl rfl rfl (by subst hLL; exact ⟨rfl, rfl, rfl, rfl, rfl, rfl, ⟨rfl, rfl, fun i hi => by cases Nat.lt_one_iff.1 hi; rfl⟩, rfl, rfl⟩) (by (repeat' (first | exact rfl | exact AvIs.refl _ | exact trivial | exact fun _ _ => rfl | exact fun _ _ => ⟨rfl, AvIs.refl _⟩ | refine ⟨?_, ?_⟩)))) fun i hi => ?_
      (repeat (first | refine XK.norm rfl rfl ?_ | refine XK.rgnA hT rfl rfl rfl ?_ | refine XK.rgnB hT hm rfl rfl rfl ?_)); refine XK.cond rfl (fun hlt => ?_) (fun hlt => ?_) <;> (try simp at hlt)
      · obtain ⟨hx1, hx2⟩ := hL.rng i hlt
        have hat := hL.at (k := k) (p := p) (hold := s.holders) (m0 := padM s.marks) hlt
        have hOl := hOld i hlt
        obtain ⟨n, hn⟩ := Int.eq_ofNat_of_zero_le hx1
        have fx : L.getD (i : Int).toNat default = (n : Int) := hn
        have hrow := mk_row k p s.holders (padM s.marks) L i n hn
        rw [hn] at hx2 hat hOl
        generalize hmm : mkTo k p s.holders (padM s.marks) L i = mm at *
        have hmn : mm n = padM s.marks n := hat
        have hc := change3_ok p n (mm n)
        rw [← hcg] at hc
        (repeat (first | refine XK.norm rfl rfl ?_ | refine XK.rgnA hT rfl rfl rfl ?_ | refine XK.rgnB hT hm rfl rfl rfl ?_))
        rw [fx]
        (repeat (first | refine XK.norm rfl rfl ?_ | refine XK.rgnA hT rfl rfl rfl ?_ | refine XK.rgnB hT hm rfl rfl rfl ?_)); refine XK.drawn hm ?_; refine XD.goA hT rfl rfl rfl rfl ?_
        refine XD.callLA hE rfl rfl rfl rfl trivial rfl (hc) rfl ?_
        refine XD.goA hT rfl rfl rfl rfl ?_; refine XD.fin (by kernel_rfl) ?_; (repeat (first | refine XK.norm rfl rfl ?_ | refine XK.rgnA hT rfl rfl rfl ?_ | refine XK.rgnB hT hm rfl rfl rfl ?_))
        refine XK.inv ⟨i + 1, hlt, ?_, by omega⟩
        exact Weak.of hN rfl rfl rfl (by (repeat' (first | exact rfl | exact AvIs.refl _ | exact trivial | exact fun _ _ => rfl | exact fun _ _ => ⟨rfl, AvIs.refl _⟩ | refine ⟨?_, ?_⟩))) ⟨by (repeat' (first | exact rfl | exact AvIs.refl _ | exact trivial | exact fun _ _ => rfl | exact fun _ _ => ⟨rfl, AvIs.refl _⟩ | refine ⟨?_, ?_⟩)), by (repeat' (first | exact rfl | exact AvIs.refl _ | exact trivial | exact fun _ _ => rfl | exact fun _ _ => ⟨rfl, AvIs.refl _⟩ | refine ⟨?_, ?_⟩)), by (repeat' (first | exact rfl | exact AvIs.refl _ | exact trivial | exact fun _ _ => rfl | exact fun _ _ => ⟨rfl, AvIs.refl _⟩ | refine ⟨?_, ?_⟩)), by (repeat' (first | exact rfl | exact AvIs.refl _ | exact trivial | exact fun _ _ => rfl | exact fun _ _ => ⟨rfl, AvIs.refl _⟩ | refine ⟨?_, ?_⟩)), ⟨rfl, rfl, rfl⟩, rfl, fun j hj => hrow j⟩
      · have hie : i = L.length := by omega
        subst hie
        rw [← hmg]
        (repeat (first | refine XK.norm rfl rfl ?_ | refine XK.rgnA hT rfl rfl rfl ?_ | refine XK.rgnB hT hm rfl rfl rfl ?_)); refine XK.region ?_; refine XL.goA hT rfl rfl rfl rfl ?_
        refine XL.callMA [702] hE rfl rfl rfl rfl trivial (hst) rfl rfl rfl rfl rfl ?_
        refine XL.goA hT rfl rfl rfl rfl ?_; refine XL.fin ?_; (repeat (first | refine XK.norm rfl rfl ?_ | refine XK.rgnA hT rfl rfl rfl ?_ | refine XK.rgnB hT hm rfl rfl rfl ?_))
        refine XK.weak (Weak.frozen (k := 702) hN rfl rfl) ?_
        (repeat (first | refine XK.norm rfl rfl ?_ | refine XK.rgnA hT rfl rfl rfl ?_ | refine XK.rgnB hT hm rfl rfl rfl ?_))
        (first | refine XK.out rfl rfl rfl ?_ | refine XK.outN rfl rfl rfl ?_)
        rfl
    · exact absurd k1 h2
  · have hk1 : ¬ p.kind = 1 := k1
    rw [chgV, if_neg k5, if_neg k2, if_neg k1] at ch
    have hcg : ∀ n m, chgM k p s.holders n m = voidM m := fun n m => by unfold chgM; rw [if_neg k5, if_neg k2, if_neg k1]
    (repeat (first | refine XK.norm rfl rfl ?_ | refine XK.rgnA hT rfl rfl rfl ?_ | refine XK.rgnB hT hm rfl rfl rfl ?_)); refine XK.region ?_; refine XL.goA hT rfl rfl rfl rfl ?_
    refine XL.callKA hE rfl rfl rfl rfl trivial rfl rfl (ch) ?_
    refine XL.goA hT rfl rfl rfl rfl ?_; refine XL.fin ?_; (repeat (first | refine XK.norm rfl rfl ?_ | refine XK.rgnA hT rfl rfl rfl ?_ | refine XK.rgnB hT hm rfl rfl rfl ?_))
    (repeat (first | refine XK.norm rfl rfl ?_ | refine XK.rgnA hT rfl rfl rfl ?_ | refine XK.rgnB hT hm rfl rfl rfl ?_)); refine XK.cond rfl (fun h2 => ?_) (fun h2 => ?_) <;> (try simp at h2)
    · exact absurd h2 hk1
    have hLp : listP k p = p.clauses := if_neg hk1
    rw [hLp] at hL hmg hOld
    generalize p.clauses = L at *
    (repeat (first | refine XK.norm rfl rfl ?_ | refine XK.rgnA hT rfl rfl rfl ?_ | refine XK.rgnB hT hm rfl rfl rfl ?_))
    refine XK.loop (ι := Nat) (fun i => ST.of [(6, .ptr 6 0), (7, .ptr 7 0), (8, .c (.int .i64 0)), (9, .ptr 79 0), (11, .ptr 221 0), (12, .fn (.func 72) [] []), (46, intsV L), (47, .c (.int .i64 L.length)), (48, .c (.int .i64 i))]
      [(6, .cells 27 [.c (.int .i64 0), .c (.slice none 0 0), .c (.slice none 0 0), .c (.slice none 0 0), .c (.slice none 0 0), .c (.int .i64 0), .c (.slice none 0 0)]), (7, .cells 38 [.c (.int .i64 0), .c (.slice none 0 0), .c (.slice none 0 0), .c (.slice none 0 0)]), (79, .cells 27 (kC k')), (221, stO s.day s.holders s.used 702), (702, mRow k'.clauses.length (mkTo k p s.holders (padM s.marks) L i))] 2000 70 (fun _ => false))
      (fun i => i ≤ L.length) (fun i => L.length - i) 0 (Nat.zero_le _) (Weak.of hN rfl rfl rfl (by (repeat' (first | exact rfl | exact AvIs.refl _ | exact trivial | exact fun _ _ => rfl | exact fun _ _ => ⟨rfl, AvIs.refl _⟩ | refine ⟨?_, ?_⟩))) (by (repeat' (first | exact rfl | exact AvIs.refl _ | exact trivial | exact fun _ _ => rfl | exact fun _ _ => ⟨rfl, AvIs.refl _⟩ | refine ⟨?_, ?_⟩)))) fun i hi => ?_
    (repeat (first | refine XK.norm rfl rfl ?_ | refine XK.rgnA hT rfl rfl rfl ?_ | refine XK.rgnB hT hm rfl rfl rfl ?_)); refine XK.cond rfl (fun hlt => ?_) (fun hlt => ?_) <;> (try simp at hlt)
    · obtain ⟨hx1, hx2⟩ := hL.rng i hlt
      have hat := hL.at (k := k) (p := p) (hold := s.holders) (m0 := padM s.marks) hlt
      have hOl := hOld i hlt
      obtain ⟨n, hn⟩ := Int.eq_ofNat_of_zero_le hx1
      have fx : L.getD (i : Int).toNat default = (n : Int) := hn
      have hrow := mk_row k p s.holders (padM s.marks) L i n hn
      rw [hn] at hx2 hat hOl
      generalize hmm : mkTo k p s.holders (padM s.marks) L i = mm at *
      have hmn : mm n = padM s.marks n := hat
      have hc := change4_ok n (mm n)
      rw [← hcg] at hc
      (repeat (first | refine XK.norm rfl rfl ?_ | refine XK.rgnA hT rfl rfl rfl ?_ | refine XK.rgnB hT hm rfl rfl rfl ?_))
      rw [fx]
      (repeat (first | refine XK.norm rfl rfl ?_ | refine XK.rgnA hT rfl rfl rfl ?_ | refine XK.rgnB hT hm rfl rfl rfl ?_)); refine XK.drawn hm ?_; refine XD.goA hT rfl rfl rfl rfl ?_
      refine XD.callLA hE rfl rfl rfl rfl trivial rfl (hc) rfl ?_
      refine XD.goA hT rfl rfl rfl rfl ?_; refine XD.fin (by kernel_rfl) ?_; (repeat (first | refine XK.norm rfl rfl ?_ | refine XK.rgnA hT rfl rfl rfl ?_ | refine XK.rgnB hT hm rfl rfl rfl ?_))
      refine XK.inv ⟨i + 1, hlt, ?_, by omega⟩
      exact Weak.of hN rfl rfl rfl (by (repeat' (first | exact rfl | exact AvIs.refl _ | exact trivial | exact fun _ _ => rfl | exact fun _ _ => ⟨rfl, AvIs.refl _⟩ | refine ⟨?_, ?_⟩))) ⟨by (repeat' (first | exact rfl | exact AvIs.refl _ | exact trivial | exact fun _ _ => rfl | exact fun _ _ => ⟨rfl, AvIs.refl _⟩ | refine ⟨?_, ?_⟩)), by (repeat' (first | exact rfl | exact AvIs.refl _ | exact trivial | exact fun _ _ => rfl | exact fun _ _ => ⟨rfl, AvIs.refl _⟩ | refine ⟨?_, ?_⟩)), by (repeat' (first | exact rfl | exact AvIs.refl _ | exact trivial | exact fun _ _ => rfl | exact fun _ _ => ⟨rfl, AvIs.refl _⟩ | refine ⟨?_, ?_⟩)), by (repeat' (first | exact rfl | exact AvIs.refl _ | exact trivial | exact fun _ _ => rfl | exact fun _ _ => ⟨rfl, AvIs.refl _⟩ | refine ⟨?_, ?_⟩)), ⟨rfl, rfl, rfl⟩, rfl, fun j hj => hrow j⟩
    · have hie : i = L.length := by omega
      subst hie
      rw [← hmg]
      (repeat (first | refine XK.norm rfl rfl ?_ | refine XK.rgnA hT rfl rfl rfl ?_ | refine XK.rgnB hT hm rfl rfl rfl ?_)); refine XK.region ?_; refine XL.goA hT rfl rfl rfl rfl ?_
      refine XL.callMA [702] hE rfl rfl rfl rfl trivial (hst) rfl rfl rfl rfl rfl ?_
      refine XL.goA hT rfl rfl rfl rfl ?_; refine XL.fin ?_; (repeat (first | refine XK.norm rfl rfl ?_ | refine XK.rgnA hT rfl rfl rfl ?_ | refine XK.rgnB hT hm rfl rfl rfl ?_))
      refine XK.weak (Weak.frozen (k := 702) hN rfl rfl) ?_
      (repeat (first | refine XK.norm rfl rfl ?_ | refine XK.rgnA hT rfl rfl rfl ?_ | refine XK.rgnB hT hm rfl rfl rfl ?_))
      (first | refine XK.out rfl rfl rfl ?_ | refine XK.outN rfl rfl rfl ?_)
      rfl
end Go.Proofs.YtofdehlikigonaaGreat
end
