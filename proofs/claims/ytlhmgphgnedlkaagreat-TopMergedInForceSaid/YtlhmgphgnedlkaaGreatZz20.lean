import Derived.Test.YtlhmgphgnedlkaaGreatZz13
import Derived.Test.YtlhmgphgnedlkaaGreatZz19
import Derived.Test.YtlhmgphgnedlkaaGreatZz18
set_option linter.unusedSimpArgs false
set_option linter.unusedVariables false
section
/- Contracts: package migrate: migrated. -/
namespace Go.Proofs.YtlhmgphgnedlkaaGreat
open Go.Eng
set_option maxRecDepth 10000
noncomputable def migM (k : K) (p : Pt) (s : St) : Nat → Mk := mkTo k p s.holders (padM s.marks) (listP k p) (listP k p).length
noncomputable def migW (k : K) (p : Pt) (s : St) : Wk := startW (applyR k p).1 ⟨s.day, fun i => s.holders.getD i default, fun i => s.used.getD i default, migM k p s⟩
noncomputable def migS (k : K) (p : Pt) (s : St) : St := ⟨s.day, s.holders, s.used, (List.range (applyR k p).1.clauses.length).map (migW k p s).mark⟩
noncomputable def migR (k : K) (p : Pt) (s : St) : (K × St) × Int := if (applyR k p).2 ≠ 0 then ((zeroK, zS), (applyR k p).2) else (((applyR k p).1, migS k p s), 0)
def nilK : AV := .agg [.c (.int .i64 0), .c (.slice none 0 0), .c (.slice none 0 0), .c (.slice none 0 0), .c (.slice none 0 0), .c (.int .i64 0), .c (.slice none 0 0)]
theorem migratedErr_ok (k : K) (hk : kW k) (p : Pt) (hp : ptW p) (hc : p.clauses.length ≤ 1000000) (hs : p.new.start.length ≤ 1000000) (s : St) (h : (applyR k p).2 ≠ 0) :
    Does Tryz.prog 40 [kV k, ptV p, stV s] (.tup [nilK, nilS, .c (.int .i64 (applyR k p).2)]) := by
  have ap := apply_ok k hk p hp hc hs
  generalize applyR k p = r at *
  refine Does.mk (fun _ => false) TT_ok Tryz.func40 rfl (by kernel_rfl) Tryz.ntmps40 rfl rfl fun E hT hE hN hR => ?_
  have hm := mixO hE
  (repeat (first | refine XK.n ?_ | refine XK.a ?_ | refine XK.b ?_)); refine XK.region ?_; refine XL.g ?_
  refine XL.callKA hE rfl rfl rfl rfl trivial rfl rfl (ap) ?_
  refine XL.g ?_; refine XL.fin ?_; (repeat (first | refine XK.n ?_ | refine XK.a ?_ | refine XK.b ?_))
  (repeat (first | refine XK.n ?_ | refine XK.a ?_ | refine XK.b ?_)); refine XK.cond rfl (fun h1 => ?_) (fun h1 => ?_) <;> (try simp at h1)
  · (repeat (first | refine XK.n ?_ | refine XK.a ?_ | refine XK.b ?_))
    (first | refine XK.out rfl rfl rfl ?_ | refine XK.outN rfl rfl rfl ?_)
    rfl
  · exact absurd h1 h
theorem mk_row (k : K) (p : Pt) (hold : List Int) (m0 : Nat → Mk) (L : List Int) (i n : Nat) (hn : L.getD i default = (n : Int)) (j : Nat) :
    mkC (mkTo k p hold m0 L (i + 1) j) = setRowF (fun j => mkC (mkTo k p hold m0 L i j)) n 0 (mkC (chgM k p hold n (mkTo k p hold m0 L i n))) j := by
  unfold setRowF
  show mkC (if j = (L.getD i default).toNat then _ else _) = _
  rw [hn, show ((n : Nat) : Int).toNat = n from rfl]
  by_cases h : j = n
  · subst h
    rw [if_pos rfl, show Nat.beq j j = true by simp]
    rfl
  · rw [if_neg h, beq_false h]; rfl
theorem pad_B {k : K} (hk : KFacts k) {s : St} (hv : validS k s = true) (n : Nat) : lB (padM s.marks n) := by
  unfold padM
  split
  · rename_i h
    obtain ⟨_, _, _, l3, _, _, _, l8⟩ := validS_len hv
    have := l8 n h
    simp only [Bool.and_eq_true] at this
    exact markB_left hk (by omega) this.1
  · exact ⟨by decide, by decide⟩
set_option maxHeartbeats 1000000 in
theorem migratedGo_ok (k : K) (hk : kW k) (p : Pt) (hp : ptW p) (hc : p.clauses.length ≤ 1000000) (hs : p.new.start.length ≤ 1000000) (s : St) (hv : validS k s = true) (h : (applyR k p).2 = 0) :
    Does Tryz.prog 40 [kV k, ptV p, stV s] (.tup [kV (applyR k p).1, .agg [.c (.int .i64 s.day), intsV s.holders, boolsV s.used, .rs 5 (applyR k p).1.clauses.length (fun i => mkC ((migW k p s).mark i))], .c (.int .i64 0)]) := by
  have ap := apply_ok k hk p hp hc hs
  have hF := patch_facts hk hp h
  have hl := validS_len hv
  obtain ⟨l0, l1, l2, l3, -⟩ := hl
  have b1 := hF.kk.nh
  have b2 := hF.kk.na
  have b3 := hF.kk.nc
  have b4 := hF.kn.nc
  have hlen := hF.len
  have hle : s.marks.length ≤ (applyR k p).1.clauses.length := by rw [hlen, l3]; split <;> omega
  have cs := copiedState_ok s (applyR k p).1.clauses.length hle (by omega) (by omega) (by omega)
  have ch := change_ok k p s.holders
  have hmig : (migW k p s) = startW (applyR k p).1 ⟨s.day, fun i => s.holders.getD i default, fun i => s.used.getD i default, migM k p s⟩ := rfl
  have hst := mstart_ok (applyR k p).1 hF.kn s.day s.holders s.used (by rw [l1, hF.eq]) ⟨s.day, fun i => s.holders.getD i default, fun i => s.used.getD i default, migM k p s⟩ (fun _ => rfl)
  rw [← hmig] at hst
  generalize hmw : migW k p s = mw at *
  clear hmig
  rw [h] at ap
  generalize hr : (applyR k p).1 = k' at *
  refine Does.mk (fun _ => false) TT_ok Tryz.func40 rfl (by kernel_rfl) Tryz.ntmps40 rfl rfl fun E hT hE hN hR => ?_
  have hm := mixO hE
  (repeat (first | refine XK.n ?_ | refine XK.a ?_ | refine XK.b ?_)); refine XK.region ?_; refine XL.g ?_
  refine XL.callKA hE rfl rfl rfl rfl trivial rfl rfl (ap) ?_
  refine XL.g ?_; refine XL.fin ?_; (repeat (first | refine XK.n ?_ | refine XK.a ?_ | refine XK.b ?_))
  (repeat (first | refine XK.n ?_ | refine XK.a ?_ | refine XK.b ?_)); refine XK.cond rfl (fun h1 => ?_) (fun h1 => ?_)
  · cases h1
  clear h1
  (repeat (first | refine XK.n ?_ | refine XK.a ?_ | refine XK.b ?_))
  (repeat (first | refine XK.n ?_ | refine XK.a ?_ | refine XK.b ?_)); refine XK.region ?_; refine XL.g ?_
  refine XL.callMA [700, 701, 702, 703] hE rfl rfl rfl rfl trivial (cs) rfl rfl rfl rfl rfl ?_
  refine XL.g ?_; refine XL.fin ?_; (repeat (first | refine XK.n ?_ | refine XK.a ?_ | refine XK.b ?_))
  refine XK.weak (Weak.trans (Weak.of (L := [(3, .ptr 3 0), (4, .ptr 4 0), (6, .ptr 6 0), (7, .ptr 7 0), (8, .c (.int .i64 0)), (9, .ptr 79 0), (11, .ptr 221 0)])
    (O := [(3, .cells 27 (kC k)), (4, .cells 50 (ptC p)), (6, .cells 27 [.c (.int .i64 0), .c (.slice none 0 0), .c (.slice none 0 0), .c (.slice none 0 0), .c (.slice none 0 0), .c (.int .i64 0), .c (.slice none 0 0)]), (7, .cells 41 [.c (.int .i64 0), .c (.slice none 0 0), .c (.slice none 0 0), .c (.slice none 0 0)]),
      (79, .cells 27 (kC k')), (221, .cells 41 [.c (.int .i64 s.day), .vec 700 0, .vec 701 0, .vec 702 0]), (700, hRow s.holders), (701, bRow s.used), (702, mRow k'.clauses.length (padM s.marks))]) (nx := 1000) (nt := 70) (md := fun _ => false) hN rfl rfl rfl frI frI)
    (Weak.trans (Weak.frozen (k := 700) hN rfl rfl) (Weak.trans (Weak.frozen (k := 701) hN rfl rfl) (Weak.of (L := [(3, .ptr 3 0), (4, .ptr 4 0), (6, .ptr 6 0), (7, .ptr 7 0), (8, .c (.int .i64 0)), (9, .ptr 79 0), (11, .ptr 221 0)])
    (O := [(3, .cells 27 (kC k)), (4, .cells 50 (ptC p)), (6, .cells 27 [.c (.int .i64 0), .c (.slice none 0 0), .c (.slice none 0 0), .c (.slice none 0 0), .c (.slice none 0 0), .c (.int .i64 0), .c (.slice none 0 0)]), (7, .cells 41 [.c (.int .i64 0), .c (.slice none 0 0), .c (.slice none 0 0), .c (.slice none 0 0)]),
      (79, .cells 27 (kC k')), (221, stO s.day s.holders s.used 702), (702, mRow k'.clauses.length (padM s.marks))]) (nx := 1000) (nt := 70) (md := fun _ => false) hN rfl rfl rfl frI frI)))) ?_
  have hL := hF.lok
  have hpad := pad_B hF.kk hv
  have hrole : ∀ x, x < k'.clauses.length → clAt k' x = p.new → p.new.kind ≠ 4 → 0 ≤ p.new.role ∧ p.new.role < s.holders.length := fun x hx he h4 => by
    have hkn := hF.kn
    have hke := hF.eq
    rw [hr] at hkn hke
    have hkw := kindW (hkn.clB hx).2.2.1
    rw [he] at hkw
    rcases hkw with h | h
    · exact absurd h.1 h4
    · rw [l1]; rw [hke] at h; exact h.1
  have hOld : ∀ i, i < (listP k p).length → ¬ p.kind = 1 → ((listP k p).getD i default).toNat < k.clauses.length := fun i hi h1 => hF.old h1 i hi
  rw [hr] at hL
  have hmg : migM k p s = mkTo k p s.holders (padM s.marks) (listP k p) (listP k p).length := rfl
  by_cases k5 : p.kind = 5
  · have hk1 : ¬ p.kind = 1 := by omega
    rw [chgV, if_pos k5] at ch
    have hcg : ∀ n m, chgM k p s.holders n m = spanM p.days (clAt k n) m := fun n m => by unfold chgM; rw [if_pos k5]
    (repeat (first | refine XK.n ?_ | refine XK.a ?_ | refine XK.b ?_)); refine XK.region ?_; refine XL.g ?_
    refine XL.callKA hE rfl rfl rfl rfl trivial rfl rfl (ch) ?_
    refine XL.g ?_; refine XL.fin ?_; (repeat (first | refine XK.n ?_ | refine XK.a ?_ | refine XK.b ?_))
    (repeat (first | refine XK.n ?_ | refine XK.a ?_ | refine XK.b ?_)); refine XK.cond rfl (fun h2 => ?_) (fun h2 => ?_) <;> (try simp at h2)
    · exact absurd h2 hk1
    have hLp : listP k p = p.clauses := if_neg hk1
    rw [hLp] at hL hmg hOld
    generalize p.clauses = L at *
    (repeat (first | refine XK.n ?_ | refine XK.a ?_ | refine XK.b ?_))
    refine XK.loop (ι := Nat) (fun i => ST.of [(6, .ptr 6 0), (7, .ptr 7 0), (8, .c (.int .i64 0)), (9, .ptr 79 0), (11, .ptr 221 0), (12, .fn (.func 101) [] [.rptr (ptC p), .rptr (kC k)]), (46, intsV L), (47, .c (.int .i64 L.length)), (48, .c (.int .i64 i))]
      [(6, .cells 27 [.c (.int .i64 0), .c (.slice none 0 0), .c (.slice none 0 0), .c (.slice none 0 0), .c (.slice none 0 0), .c (.int .i64 0), .c (.slice none 0 0)]), (7, .cells 41 [.c (.int .i64 0), .c (.slice none 0 0), .c (.slice none 0 0), .c (.slice none 0 0)]), (79, .cells 27 (kC k')), (221, stO s.day s.holders s.used 702), (702, mRow k'.clauses.length (mkTo k p s.holders (padM s.marks) L i))] 2000 70 (fun _ => false))
      (fun i => i ≤ L.length) (fun i => L.length - i) 0 (Nat.zero_le _) (Weak.of hN rfl rfl rfl frI frI) fun i hi => ?_
    (repeat (first | refine XK.n ?_ | refine XK.a ?_ | refine XK.b ?_)); refine XK.cond rfl (fun hlt => ?_) (fun hlt => ?_) <;> (try simp at hlt)
    · obtain ⟨hx1, hx2⟩ := hL.rng i hlt
      have hat := hL.at (k := k) (p := p) (hold := s.holders) (m0 := padM s.marks) hlt
      have hOl := hOld i hlt
      obtain ⟨n, hn⟩ := Int.eq_ofNat_of_zero_le hx1
      have fx : L.getD (i : Int).toNat default = (n : Int) := hn
      have hrow := mk_row k p s.holders (padM s.marks) L i n hn
      rw [hn] at hx2 hat hOl
      generalize hmm : mkTo k p s.holders (padM s.marks) L i = mm at *
      have hmn : mm n = padM s.marks n := hat
      have hc := change1_ok k p n (hOl hk1) (mm n) (dB_of hF.kk (hOl hk1)) (by have := hF.days k5; omega) (by rw [hmn]; exact hpad n)
      rw [← hcg] at hc
      (repeat (first | refine XK.n ?_ | refine XK.a ?_ | refine XK.b ?_))
      rw [fx]
      (repeat (first | refine XK.n ?_ | refine XK.a ?_ | refine XK.b ?_)); refine XK.drawn hm ?_; refine XD.goA hT rfl rfl rfl rfl ?_
      refine XD.callLA hE rfl rfl rfl rfl trivial rfl (hc) rfl ?_
      refine XD.goA hT rfl rfl rfl rfl ?_; refine XD.fin (by kernel_rfl) ?_; (repeat (first | refine XK.n ?_ | refine XK.a ?_ | refine XK.b ?_))
      refine XK.inv ⟨i + 1, hlt, ?_, by omega⟩
      exact Weak.of hN rfl rfl rfl frI ⟨frI, frI, frI, frI, ⟨rfl, rfl, rfl⟩, rfl, fun j hj => hrow j⟩
    · have hie : i = L.length := by omega
      subst hie
      rw [← hmg]
      (repeat (first | refine XK.n ?_ | refine XK.a ?_ | refine XK.b ?_)); refine XK.region ?_; refine XL.g ?_
      refine XL.callMA [702] hE rfl rfl rfl rfl trivial (hst) rfl rfl rfl rfl rfl ?_
      refine XL.g ?_; refine XL.fin ?_; (repeat (first | refine XK.n ?_ | refine XK.a ?_ | refine XK.b ?_))
      refine XK.weak (Weak.frozen (k := 702) hN rfl rfl) ?_
      (repeat (first | refine XK.n ?_ | refine XK.a ?_ | refine XK.b ?_))
      (first | refine XK.out rfl rfl rfl ?_ | refine XK.outN rfl rfl rfl ?_)
      rfl
  by_cases k2 : p.kind = 2
  · have hk1 : ¬ p.kind = 1 := by omega
    obtain ⟨x0, hx0, hx01, hx02, hx03⟩ := hF.one k2
    have hx04 : x0.toNat < k'.clauses.length := by rw [hlen, if_neg hk1]; exact hx02
    have hnd : dB p.new := by rw [← hx03]; exact dB_of hF.kn (by rw [hr]; exact hx04)
    have hnr : p.new.kind ≠ 4 → 0 ≤ p.new.role ∧ p.new.role < s.holders.length := fun h4 => hrole x0.toNat hx04 (by rw [← hr]; exact hx03) h4
    rw [chgV, if_neg k5, if_pos k2] at ch
    have hcg : ∀ n m, chgM k p s.holders n m = replM p.new (clAt k n) m s.holders := fun n m => by unfold chgM; rw [if_neg k5, if_pos k2]
    (repeat (first | refine XK.n ?_ | refine XK.a ?_ | refine XK.b ?_)); refine XK.region ?_; refine XL.g ?_
    refine XL.callKA hE rfl rfl rfl rfl trivial rfl rfl (ch) ?_
    refine XL.g ?_; refine XL.fin ?_; (repeat (first | refine XK.n ?_ | refine XK.a ?_ | refine XK.b ?_))
    (repeat (first | refine XK.n ?_ | refine XK.a ?_ | refine XK.b ?_)); refine XK.cond rfl (fun h2 => ?_) (fun h2 => ?_) <;> (try simp at h2)
    · exact absurd h2 hk1
    have hLp : listP k p = p.clauses := if_neg hk1
    rw [hLp] at hL hmg hOld
    generalize p.clauses = L at *
    (repeat (first | refine XK.n ?_ | refine XK.a ?_ | refine XK.b ?_))
    refine XK.loop (ι := Nat) (fun i => ST.of [(6, .ptr 6 0), (7, .ptr 7 0), (8, .c (.int .i64 0)), (9, .ptr 79 0), (11, .ptr 221 0), (12, .fn (.func 102) [] [.rptr (ptC p), .rptr (kC k), .rptr [intsV s.holders]]), (46, intsV L), (47, .c (.int .i64 L.length)), (48, .c (.int .i64 i))]
      [(6, .cells 27 [.c (.int .i64 0), .c (.slice none 0 0), .c (.slice none 0 0), .c (.slice none 0 0), .c (.slice none 0 0), .c (.int .i64 0), .c (.slice none 0 0)]), (7, .cells 41 [.c (.int .i64 0), .c (.slice none 0 0), .c (.slice none 0 0), .c (.slice none 0 0)]), (79, .cells 27 (kC k')), (221, stO s.day s.holders s.used 702), (702, mRow k'.clauses.length (mkTo k p s.holders (padM s.marks) L i))] 2000 70 (fun _ => false))
      (fun i => i ≤ L.length) (fun i => L.length - i) 0 (Nat.zero_le _) (Weak.of hN rfl rfl rfl frI frI) fun i hi => ?_
    (repeat (first | refine XK.n ?_ | refine XK.a ?_ | refine XK.b ?_)); refine XK.cond rfl (fun hlt => ?_) (fun hlt => ?_) <;> (try simp at hlt)
    · obtain ⟨hx1, hx2⟩ := hL.rng i hlt
      have hat := hL.at (k := k) (p := p) (hold := s.holders) (m0 := padM s.marks) hlt
      have hOl := hOld i hlt
      obtain ⟨n, hn⟩ := Int.eq_ofNat_of_zero_le hx1
      have fx : L.getD (i : Int).toNat default = (n : Int) := hn
      have hrow := mk_row k p s.holders (padM s.marks) L i n hn
      rw [hn] at hx2 hat hOl
      generalize hmm : mkTo k p s.holders (padM s.marks) L i = mm at *
      have hmn : mm n = padM s.marks n := hat
      have hc := change2_ok k p s.holders n (hOl hk1) (mm n) (dB_of hF.kk (hOl hk1)) hnd (by rw [hmn]; exact hpad n) hnr
      rw [← hcg] at hc
      (repeat (first | refine XK.n ?_ | refine XK.a ?_ | refine XK.b ?_))
      rw [fx]
      (repeat (first | refine XK.n ?_ | refine XK.a ?_ | refine XK.b ?_)); refine XK.drawn hm ?_; refine XD.goA hT rfl rfl rfl rfl ?_
      refine XD.callLA hE rfl rfl rfl rfl trivial rfl (hc) rfl ?_
      refine XD.goA hT rfl rfl rfl rfl ?_; refine XD.fin (by kernel_rfl) ?_; (repeat (first | refine XK.n ?_ | refine XK.a ?_ | refine XK.b ?_))
      refine XK.inv ⟨i + 1, hlt, ?_, by omega⟩
      exact Weak.of hN rfl rfl rfl frI ⟨frI, frI, frI, frI, ⟨rfl, rfl, rfl⟩, rfl, fun j hj => hrow j⟩
    · have hie : i = L.length := by omega
      subst hie
      rw [← hmg]
      (repeat (first | refine XK.n ?_ | refine XK.a ?_ | refine XK.b ?_)); refine XK.region ?_; refine XL.g ?_
      refine XL.callMA [702] hE rfl rfl rfl rfl trivial (hst) rfl rfl rfl rfl rfl ?_
      refine XL.g ?_; refine XL.fin ?_; (repeat (first | refine XK.n ?_ | refine XK.a ?_ | refine XK.b ?_))
      refine XK.weak (Weak.frozen (k := 702) hN rfl rfl) ?_
      (repeat (first | refine XK.n ?_ | refine XK.a ?_ | refine XK.b ?_))
      (first | refine XK.out rfl rfl rfl ?_ | refine XK.outN rfl rfl rfl ?_)
      rfl
  by_cases k1 : p.kind = 1
  · have hk1 := k1
    rw [chgV, if_neg k5, if_neg k2, if_pos k1] at ch
    have hcg : ∀ n m, chgM k p s.holders n m = addM p.new m := fun n m => by unfold chgM; rw [if_neg k5, if_neg k2, if_pos k1]
    (repeat (first | refine XK.n ?_ | refine XK.a ?_ | refine XK.b ?_)); refine XK.region ?_; refine XL.g ?_
    refine XL.callKA hE rfl rfl rfl rfl trivial rfl rfl (ch) ?_
    refine XL.g ?_; refine XL.fin ?_; (repeat (first | refine XK.n ?_ | refine XK.a ?_ | refine XK.b ?_))
    (repeat (first | refine XK.n ?_ | refine XK.a ?_ | refine XK.b ?_)); refine XK.cond rfl (fun h2 => ?_) (fun h2 => ?_) <;> (try simp at h2)
    · have hLp : listP k p = [(k.clauses.length : Int)] := if_pos h2
      rw [hLp] at hL hmg hOld
      (repeat (first | refine XK.n ?_ | refine XK.a ?_ | refine XK.b ?_))
      generalize hLL : [(k.clauses.length : Int)] = L at *
      refine XK.loop (ι := Nat) (fun i => ST.of [(6, .ptr 6 0), (7, .ptr 7 0), (8, .c (.int .i64 0)), (9, .ptr 79 0), (11, .ptr 221 0), (12, .fn (.func 107) [] [.rptr (ptC p)]), (46, intsV L), (47, .c (.int .i64 L.length)), (48, .c (.int .i64 i))]
        [(6, .cells 27 [.c (.int .i64 0), .c (.slice none 0 0), .c (.slice none 0 0), .c (.slice none 0 0), .c (.slice none 0 0), .c (.int .i64 0), .c (.slice none 0 0)]), (7, .cells 41 [.c (.int .i64 0), .c (.slice none 0 0), .c (.slice none 0 0), .c (.slice none 0 0)]), (79, .cells 27 (kC k')), (221, stO s.day s.holders s.used 702), (702, mRow k'.clauses.length (mkTo k p s.holders (padM s.marks) L i))] 2000 70 (fun _ => false))
        (fun i => i ≤ L.length) (fun i => L.length - i) 0 (Nat.zero_le _) (Weak.of hN rfl rfl rfl (by subst hLL; exact ⟨rfl, rfl, rfl, rfl, rfl, rfl, ⟨rfl, rfl, fun i hi => by cases Nat.lt_one_iff.1 hi; rfl⟩, rfl, rfl⟩) frI) fun i hi => ?_
      (repeat (first | refine XK.n ?_ | refine XK.a ?_ | refine XK.b ?_)); refine XK.cond rfl (fun hlt => ?_) (fun hlt => ?_) <;> (try simp at hlt)
      · obtain ⟨hx1, hx2⟩ := hL.rng i hlt
        have hat := hL.at (k := k) (p := p) (hold := s.holders) (m0 := padM s.marks) hlt
        have hOl := hOld i hlt
        obtain ⟨n, hn⟩ := Int.eq_ofNat_of_zero_le hx1
        have fx : L.getD (i : Int).toNat default = (n : Int) := hn
        have hrow := mk_row k p s.holders (padM s.marks) L i n hn
        rw [hn] at hx2 hat hOl
        generalize hmm : mkTo k p s.holders (padM s.marks) L i = mm at *
        have hmn : mm n = padM s.marks n := hat
        have hc := change3_ok p n (mm n)
        rw [← hcg] at hc
        (repeat (first | refine XK.n ?_ | refine XK.a ?_ | refine XK.b ?_))
        rw [fx]
        (repeat (first | refine XK.n ?_ | refine XK.a ?_ | refine XK.b ?_)); refine XK.drawn hm ?_; refine XD.goA hT rfl rfl rfl rfl ?_
        refine XD.callLA hE rfl rfl rfl rfl trivial rfl (hc) rfl ?_
        refine XD.goA hT rfl rfl rfl rfl ?_; refine XD.fin (by kernel_rfl) ?_; (repeat (first | refine XK.n ?_ | refine XK.a ?_ | refine XK.b ?_))
        refine XK.inv ⟨i + 1, hlt, ?_, by omega⟩
        exact Weak.of hN rfl rfl rfl frI ⟨frI, frI, frI, frI, ⟨rfl, rfl, rfl⟩, rfl, fun j hj => hrow j⟩
      · have hie : i = L.length := by omega
        subst hie
        rw [← hmg]
        (repeat (first | refine XK.n ?_ | refine XK.a ?_ | refine XK.b ?_)); refine XK.region ?_; refine XL.g ?_
        refine XL.callMA [702] hE rfl rfl rfl rfl trivial (hst) rfl rfl rfl rfl rfl ?_
        refine XL.g ?_; refine XL.fin ?_; (repeat (first | refine XK.n ?_ | refine XK.a ?_ | refine XK.b ?_))
        refine XK.weak (Weak.frozen (k := 702) hN rfl rfl) ?_
        (repeat (first | refine XK.n ?_ | refine XK.a ?_ | refine XK.b ?_))
        (first | refine XK.out rfl rfl rfl ?_ | refine XK.outN rfl rfl rfl ?_)
        rfl
    · exact absurd k1 h2
  · have hk1 : ¬ p.kind = 1 := k1
    rw [chgV, if_neg k5, if_neg k2, if_neg k1] at ch
    have hcg : ∀ n m, chgM k p s.holders n m = voidM m := fun n m => by unfold chgM; rw [if_neg k5, if_neg k2, if_neg k1]
    (repeat (first | refine XK.n ?_ | refine XK.a ?_ | refine XK.b ?_)); refine XK.region ?_; refine XL.g ?_
    refine XL.callKA hE rfl rfl rfl rfl trivial rfl rfl (ch) ?_
    refine XL.g ?_; refine XL.fin ?_; (repeat (first | refine XK.n ?_ | refine XK.a ?_ | refine XK.b ?_))
    (repeat (first | refine XK.n ?_ | refine XK.a ?_ | refine XK.b ?_)); refine XK.cond rfl (fun h2 => ?_) (fun h2 => ?_) <;> (try simp at h2)
    · exact absurd h2 hk1
    have hLp : listP k p = p.clauses := if_neg hk1
    rw [hLp] at hL hmg hOld
    generalize p.clauses = L at *
    (repeat (first | refine XK.n ?_ | refine XK.a ?_ | refine XK.b ?_))
    refine XK.loop (ι := Nat) (fun i => ST.of [(6, .ptr 6 0), (7, .ptr 7 0), (8, .c (.int .i64 0)), (9, .ptr 79 0), (11, .ptr 221 0), (12, .fn (.func 108) [] []), (46, intsV L), (47, .c (.int .i64 L.length)), (48, .c (.int .i64 i))]
      [(6, .cells 27 [.c (.int .i64 0), .c (.slice none 0 0), .c (.slice none 0 0), .c (.slice none 0 0), .c (.slice none 0 0), .c (.int .i64 0), .c (.slice none 0 0)]), (7, .cells 41 [.c (.int .i64 0), .c (.slice none 0 0), .c (.slice none 0 0), .c (.slice none 0 0)]), (79, .cells 27 (kC k')), (221, stO s.day s.holders s.used 702), (702, mRow k'.clauses.length (mkTo k p s.holders (padM s.marks) L i))] 2000 70 (fun _ => false))
      (fun i => i ≤ L.length) (fun i => L.length - i) 0 (Nat.zero_le _) (Weak.of hN rfl rfl rfl frI frI) fun i hi => ?_
    (repeat (first | refine XK.n ?_ | refine XK.a ?_ | refine XK.b ?_)); refine XK.cond rfl (fun hlt => ?_) (fun hlt => ?_) <;> (try simp at hlt)
    · obtain ⟨hx1, hx2⟩ := hL.rng i hlt
      have hat := hL.at (k := k) (p := p) (hold := s.holders) (m0 := padM s.marks) hlt
      have hOl := hOld i hlt
      obtain ⟨n, hn⟩ := Int.eq_ofNat_of_zero_le hx1
      have fx : L.getD (i : Int).toNat default = (n : Int) := hn
      have hrow := mk_row k p s.holders (padM s.marks) L i n hn
      rw [hn] at hx2 hat hOl
      generalize hmm : mkTo k p s.holders (padM s.marks) L i = mm at *
      have hmn : mm n = padM s.marks n := hat
      have hc := change4_ok n (mm n)
      rw [← hcg] at hc
      (repeat (first | refine XK.n ?_ | refine XK.a ?_ | refine XK.b ?_))
      rw [fx]
      (repeat (first | refine XK.n ?_ | refine XK.a ?_ | refine XK.b ?_)); refine XK.drawn hm ?_; refine XD.goA hT rfl rfl rfl rfl ?_
      refine XD.callLA hE rfl rfl rfl rfl trivial rfl (hc) rfl ?_
      refine XD.goA hT rfl rfl rfl rfl ?_; refine XD.fin (by kernel_rfl) ?_; (repeat (first | refine XK.n ?_ | refine XK.a ?_ | refine XK.b ?_))
      refine XK.inv ⟨i + 1, hlt, ?_, by omega⟩
      exact Weak.of hN rfl rfl rfl frI ⟨frI, frI, frI, frI, ⟨rfl, rfl, rfl⟩, rfl, fun j hj => hrow j⟩
    · have hie : i = L.length := by omega
      subst hie
      rw [← hmg]
      (repeat (first | refine XK.n ?_ | refine XK.a ?_ | refine XK.b ?_)); refine XK.region ?_; refine XL.g ?_
      refine XL.callMA [702] hE rfl rfl rfl rfl trivial (hst) rfl rfl rfl rfl rfl ?_
      refine XL.g ?_; refine XL.fin ?_; (repeat (first | refine XK.n ?_ | refine XK.a ?_ | refine XK.b ?_))
      refine XK.weak (Weak.frozen (k := 702) hN rfl rfl) ?_
      (repeat (first | refine XK.n ?_ | refine XK.a ?_ | refine XK.b ?_))
      (first | refine XK.out rfl rfl rfl ?_ | refine XK.outN rfl rfl rfl ?_)
      rfl
end Go.Proofs.YtlhmgphgnedlkaaGreat
end
section
/- Contracts: package migrate: Migrate. -/
namespace Go.Proofs.YtlhmgphgnedlkaaGreat
open Go.Eng
set_option maxRecDepth 10000
theorem migS_is (k : K) (p : Pt) (s : St) : AvS (.agg [.c (.int .i64 s.day), intsV s.holders, boolsV s.used, .rs 5 (applyR k p).1.clauses.length (fun i => mkC ((migW k p s).mark i))]) (stV (migS k p s)) := by
  refine AvS.agg ⟨AvS.refl _, AvS.refl _, AvS.refl _, ?_, trivial⟩
  have rs {sz n m : Nat} {f g : Nat → List AV} (h : m = n) (h2 : ∀ i, i < n → f i = g i) : AvS (.rs sz n f) (.rs sz m g) := by
    subst h
    exact AvS.rs fun i hi => by rw [h2 i hi]; exact AvSL.refl _
  refine rs (by simp [migS]) fun i hi => ?_
  show _ = mkC (((List.range (applyR k p).1.clauses.length).map (migW k p s).mark).getD i default)
  rw [map_getD _ hi]
theorem nilS_is : AvS nilS (stV zS) := AvS.agg ⟨AvS.refl _, AvS.nil, AvS.nil, AvS.nil, trivial⟩
theorem nilK_is : AvS nilK (kV zeroK) := AvS.agg ⟨AvS.refl _, AvS.nil, AvS.nil, AvS.nil, AvS.nil, AvS.refl _, AvS.nil, trivial⟩
theorem migrated_ok (k : K) (hk : kW k) (p : Pt) (hp : ptW p) (hc : p.clauses.length ≤ 1000000) (hs : p.new.start.length ≤ 1000000) (s : St) (hv : validS k s = true) :
    Does Tryz.prog 40 [kV k, ptV p, stV s] (.tup [kV (migR k p s).1.1, stV (migR k p s).1.2, .c (.int .i64 (migR k p s).2)]) := by
  by_cases h : (applyR k p).2 = 0
  · unfold migR
    rw [if_neg (by simpa using h)]
    exact (migratedGo_ok k hk p hp hc hs s hv h).weaken (AvS.tup ⟨AvS.refl _, migS_is k p s, AvS.refl _, trivial⟩)
  · unfold migR
    rw [if_pos h]
    exact (migratedErr_ok k hk p hp hc hs s h).weaken (AvS.tup ⟨nilK_is, nilS_is, AvS.refl _, trivial⟩)
noncomputable def migrateR (k : K) (p : Pt) (s : St) : St × Int := if validS k s = true then ((migR k p s).1.2, (migR k p s).2) else (zS, 1)
theorem migrateErr_ok (k : K) (hk : kW k) (p : Pt) (s : St) (hv : validS k s = false) :
    Does Tryz.prog 10 [kV k, ptV p, stV s] (.tup [nilS, .c (.int .i64 1)]) := by
  have hva := validS_ok k hk s
  rw [hv] at hva
  refine Does.mk (fun _ => false) TT_ok Tryz.func10 rfl (by kernel_rfl) Tryz.ntmps10 rfl rfl fun E hT hE hN hR => ?_
  have hm := mixO hE
  (repeat (first | refine XK.n ?_ | refine XK.a ?_ | refine XK.b ?_)); refine XK.region ?_; refine XL.g ?_
  refine XL.callLA hE rfl rfl rfl rfl trivial rfl (hva) rfl ?_
  refine XL.g ?_; refine XL.fin ?_; (repeat (first | refine XK.n ?_ | refine XK.a ?_ | refine XK.b ?_))
  (repeat (first | refine XK.n ?_ | refine XK.a ?_ | refine XK.b ?_)); refine XK.cond rfl (fun h1 => ?_) (fun h1 => ?_)
  · (repeat (first | refine XK.n ?_ | refine XK.a ?_ | refine XK.b ?_))
    (first | refine XK.out rfl rfl rfl ?_ | refine XK.outN rfl rfl rfl ?_)
    rfl
  · cases h1
theorem migrateGo_ok (k : K) (hk : kW k) (p : Pt) (hp : ptW p) (hc : p.clauses.length ≤ 1000000) (hs : p.new.start.length ≤ 1000000) (s : St) (hv : validS k s = true) :
    Does Tryz.prog 10 [kV k, ptV p, stV s] (.tup [stV (migR k p s).1.2, .c (.int .i64 (migR k p s).2)]) := by
  have hva := validS_ok k hk s
  have hm' := migrated_ok k hk p hp hc hs s hv
  rw [hv] at hva
  generalize migR k p s = r at *
  refine Does.mk (fun _ => false) TT_ok Tryz.func10 rfl (by kernel_rfl) Tryz.ntmps10 rfl rfl fun E hT hE hN hR => ?_
  have hm := mixO hE
  (repeat (first | refine XK.n ?_ | refine XK.a ?_ | refine XK.b ?_)); refine XK.region ?_; refine XL.g ?_
  refine XL.callLA hE rfl rfl rfl rfl trivial rfl (hva) rfl ?_
  refine XL.g ?_; refine XL.fin ?_; (repeat (first | refine XK.n ?_ | refine XK.a ?_ | refine XK.b ?_))
  (repeat (first | refine XK.n ?_ | refine XK.a ?_ | refine XK.b ?_)); refine XK.cond rfl (fun h1 => ?_) (fun h1 => ?_)
  · cases h1
  clear h1
  (repeat (first | refine XK.n ?_ | refine XK.a ?_ | refine XK.b ?_))
  (repeat (first | refine XK.n ?_ | refine XK.a ?_ | refine XK.b ?_)); refine XK.region ?_; refine XL.g ?_
  refine XL.callKA hE rfl rfl rfl rfl trivial rfl rfl (hm') ?_
  refine XL.g ?_; refine XL.fin ?_; (repeat (first | refine XK.n ?_ | refine XK.a ?_ | refine XK.b ?_))
  (first | refine XK.out rfl rfl rfl ?_ | refine XK.outN rfl rfl rfl ?_)
  rfl
theorem migrate_ok (k : K) (hk : kW k) (p : Pt) (hp : ptW p) (hc : p.clauses.length ≤ 1000000) (hs : p.new.start.length ≤ 1000000) (s : St) :
    Does Tryz.prog 10 [kV k, ptV p, stV s] (.tup [stV (migrateR k p s).1, .c (.int .i64 (migrateR k p s).2)]) := by
  unfold migrateR
  cases hv : validS k s with
  | true => exact migrateGo_ok k hk p hp hc hs s hv
  | false => exact (migrateErr_ok k hk p s hv).weaken (AvS.tup ⟨nilS_is, AvS.refl _, trivial⟩)
end Go.Proofs.YtlhmgphgnedlkaaGreat
end
section
/- Contracts: package migrate: copies of contracts. -/
namespace Go.Proofs.YtlhmgphgnedlkaaGreat
open Go.Eng
set_option maxRecDepth 10000
theorem setRow_sameG {cs : List Cl} {i off : Nat} {c : List AV} (hc : setL (clC (cs.getD i default)) off c = clC (cs.getD i default)) : ∀ j, clC (cs.getD j default) = setRowF (fun i => clC (cs.getD i default)) i off c j := by
  intro j
  unfold setRowF
  by_cases h : j = i
  · subst h; rw [show Nat.beq j j = true by simp]; exact hc.symm
  · rw [beq_false h]; rfl
theorem copiedC_ok (k : K) (h1 : (kValid k).1 = 0) (hk : kW k) : Does Tryz.prog 55 [kV k] (kV k) := by
  have hF := (show kOk k from ⟨hk, h1⟩).facts
  have hnc := hF.nc
  have hnh := hF.nh
  have hna := hF.na
  have hnu := units_len h1
  have hno := off_len hF
  refine Does.mk (fun _ => false) TT_ok Tryz.func55 rfl (by kernel_rfl) Tryz.ntmps55 rfl rfl fun E hT hE hN hR => ?_
  have hm := mixO hE
  (repeat (first | refine XK.n ?_ | refine XK.a ?_ | refine XK.b ?_)); refine XK.region ?_; refine XL.g ?_
  refine XL.callKA hE rfl rfl rfl rfl trivial rfl rfl (cln_ints k.holders (by omega)) ?_
  refine XL.g ?_; refine XL.fin ?_; (repeat (first | refine XK.n ?_ | refine XK.a ?_ | refine XK.b ?_))
  (repeat (first | refine XK.n ?_ | refine XK.a ?_ | refine XK.b ?_)); refine XK.region ?_; refine XL.g ?_
  refine XL.callKA hE rfl rfl rfl rfl trivial rfl rfl (cln_units k.units (by omega)) ?_
  refine XL.g ?_; refine XL.fin ?_; (repeat (first | refine XK.n ?_ | refine XK.a ?_ | refine XK.b ?_))
  (repeat (first | refine XK.n ?_ | refine XK.a ?_ | refine XK.b ?_)); refine XK.region ?_; refine XL.g ?_
  refine XL.callKA hE rfl rfl rfl rfl trivial rfl rfl (cln_acts k.acts (by omega)) ?_
  refine XL.g ?_; refine XL.fin ?_; (repeat (first | refine XK.n ?_ | refine XK.a ?_ | refine XK.b ?_))
  (repeat (first | refine XK.n ?_ | refine XK.a ?_ | refine XK.b ?_)); refine XK.region ?_; refine XL.g ?_
  refine XL.callKA hE rfl rfl rfl rfl trivial rfl rfl (cln_ints k.off (by omega)) ?_
  refine XL.g ?_; refine XL.fin ?_; (repeat (first | refine XK.n ?_ | refine XK.a ?_ | refine XK.b ?_))
  by_cases h0 : k.clauses.length = 0
  · (repeat (first | refine XK.n ?_ | refine XK.a ?_ | refine XK.b ?_)); refine XK.region ?_; refine XL.g ?_
    refine XL.callKA hE rfl rfl rfl rfl trivial rfl rfl (cln_cls k.clauses (by omega)) ?_
    refine XL.g ?_; refine XL.fin ?_; (repeat (first | refine XK.n ?_ | refine XK.a ?_ | refine XK.b ?_))
    refine XK.loop (ι := Nat) (fun i => ST.of [(1, .ptr 1 0), (2, .ptr 2 0), (27, .c (.int .i64 k.clauses.length)), (28, .c (.int .i64 0))] [(1, .cells 27 (kC k)), (2, .cells 27 [.c (.int .i64 0), .c (.slice none 0 0), .c (.slice none 0 0), .c (.slice none 0 0), .c (.slice none 0 0), .c (.int .i64 0), .c (.slice none 0 0)])] 1000 43 (fun _ => false))
      (fun i => i = 0) (fun i => 0) 0 rfl (Weak.of hN rfl rfl rfl frI frI) fun i hi => ?_
    (repeat (first | refine XK.n ?_ | refine XK.a ?_ | refine XK.b ?_)); refine XK.cond rfl (fun hlt => ?_) (fun hlt => ?_) <;> (try simp at hlt)
    · omega
    · (repeat (first | refine XK.n ?_ | refine XK.a ?_ | refine XK.b ?_))
      (first | refine XK.out rfl rfl rfl ?_ | refine XK.outN rfl rfl rfl ?_)
      rfl
  · (repeat (first | refine XK.n ?_ | refine XK.a ?_ | refine XK.b ?_)); refine XK.region ?_; refine XL.g ?_
    refine XL.callMA [700] hE rfl rfl rfl rfl trivial (clnM_cls k.clauses (by omega) (by omega)) rfl rfl rfl rfl rfl ?_
    refine XL.g ?_; refine XL.fin ?_; (repeat (first | refine XK.n ?_ | refine XK.a ?_ | refine XK.b ?_))
    refine XK.loop (ι := Nat) (fun i => ST.of [(1, .ptr 1 0), (2, .ptr 2 0), (26, .vec 700 0), (27, .c (.int .i64 k.clauses.length)), (28, .c (.int .i64 i))]
      [(1, .cells 27 [.c (.int .i64 k.parties), intsV k.holders, unitsV k.units, actsV k.acts, .vec 700 0, .c (.int .i64 k.days), intsV k.off]), (2, .cells 27 [.c (.int .i64 0), .c (.slice none 0 0), .c (.slice none 0 0), .c (.slice none 0 0), .c (.slice none 0 0), .c (.int .i64 0), .c (.slice none 0 0)]), (700, clsO 0 k.clauses)] 1000 43 (fun _ => false))
      (fun i => i ≤ k.clauses.length) (fun i => k.clauses.length - i) 0 (Nat.zero_le _) (Weak.of hN rfl rfl rfl frI frI) fun i hi => ?_
    unfold clsO
    (repeat (first | refine XK.n ?_ | refine XK.a ?_ | refine XK.b ?_)); refine XK.cond rfl (fun hlt => ?_) (fun hlt => ?_) <;> (try simp at hlt)
    · have fx : k.clauses.getD (i : Int).toNat default = k.clauses.getD i default := rfl
      have hst : (k.clauses.getD i default).start.length ≤ 8 := (hF.clB hlt).2.2.2.1
      have cc := cln_cnds (k.clauses.getD i default).start (by omega)
      (repeat (first | refine XK.n ?_ | refine XK.a ?_ | refine XK.b ?_))
      (repeat (first | refine XK.n ?_ | refine XK.a ?_ | refine XK.b ?_)); refine XK.drawn hm ?_; refine XD.goA hT rfl rfl rfl rfl ?_
      rw [fx]
      refine XD.callKA hE rfl rfl rfl rfl trivial rfl rfl (cc) ?_
      refine XD.goA hT rfl rfl rfl rfl ?_; refine XD.fin (by kernel_rfl) ?_; (repeat (first | refine XK.n ?_ | refine XK.a ?_ | refine XK.b ?_))
      refine XK.inv ⟨i + 1, hlt, Weak.of hN rfl rfl rfl (by (repeat' (first | exact rfl | exact AvIs.refl _ | exact trivial | exact fun _ _ => rfl | exact fun _ _ => ⟨rfl, AvIs.refl _⟩ | exact cI (by omega) | refine ⟨?_, ?_⟩))) ⟨frI, frI, ⟨rfl, rfl, rfl⟩, rfl, fun j hj => setRow_sameG rfl j⟩, by omega⟩
    · (repeat (first | refine XK.n ?_ | refine XK.a ?_ | refine XK.b ?_))
      refine XK.weak (Weak.frozen (k := 700) hN rfl rfl) ?_
      (repeat (first | refine XK.n ?_ | refine XK.a ?_ | refine XK.b ?_))
      (first | refine XK.out rfl rfl rfl ?_ | refine XK.outN rfl rfl rfl ?_)
      rfl
end Go.Proofs.YtlhmgphgnedlkaaGreat
end
section
/- A state carried over: it is well-formed for the amended contract. -/
namespace Go.Proofs.YtlhmgphgnedlkaaGreat
open Go.Eng
set_option maxRecDepth 10000
theorem mark_st {k : K} {i : Nat} {m : Mk} (h : markB k i m = true) : m.status = 0 ∨ m.status = 1 ∨ m.status = 2 ∨ m.status = 3 ∨ m.status = 4 ∨ m.status = 5 := by
  unfold markB at h
  repeat (split at h; · omega)
  cases h
theorem mark_end {k : K} {i : Nat} {m : Mk} (hs : m.status = 3 ∨ m.status = 4 ∨ m.status = 5) : markB k i m = endB k m := by
  unfold markB
  rw [if_neg (by omega), if_neg (by omega), if_neg (by omega), if_pos hs]
theorem endB_par {k k' : K} (hp : k'.parties = k.parties) (m : Mk) : endB k' m = endB k m := by unfold endB; rw [hp]
theorem idle_eq {m : Mk} (h : idleB m = true) : m = idleMk := by
  obtain ⟨a, b, c, d, e⟩ := m
  simp only [idleB, Bool.and_eq_true, beq_iff_eq, Bool.not_eq_true'] at h
  obtain ⟨⟨⟨⟨rfl, rfl⟩, rfl⟩, rfl⟩, rfl⟩ := h
  rfl
theorem mark_idle {k : K} {i : Nat} {m : Mk} (h : markB k i m = true) (hs : m.status = 0) : m = idleMk ∧ (clAt k i).waived = false := by
  unfold markB at h
  rw [if_pos hs] at h
  simp only [Bool.and_eq_true, Bool.not_eq_true'] at h
  exact ⟨idle_eq h.2, h.1⟩
theorem end_idle {k : K} (hp : 0 ≤ k.parties) (hp2 : 1 ≤ k.parties) (i : Nat) (s : Int) (hs : s = 3 ∨ s = 4 ∨ s = 5) : markB k i (endM idleMk s) = true :=
  endF ⟨by decide, by decide⟩ ⟨by decide, by show (-1 : Int) < k.parties; omega⟩ hs
theorem void_keep {k k' : K} (hk : KFacts k) (hp : k'.parties = k.parties) {i : Nat} (hi : i < k.clauses.length) {m : Mk} (h : markB k i m = true) : markB k' i (voidM m) = true := by
  have hpar := hk.parties
  unfold voidM
  by_cases hc : (m.status == 0 || runsM m) = true
  · rw [if_pos hc]
    rcases mark_st h with h0 | h1 | h1 | h3
    · rw [(mark_idle h h0).1]
      exact end_idle (by omega) (by omega) i 5 (by omega)
    · have hr := (markB_run (k := k) (i := i) (m := m) (runsM_iff.2 (by omega))).1 h
      have hb := run_bd hk hi hr
      exact endF hb.1 (by rw [hp]; exact hb.2.1) (by omega)
    · have hr := (markB_run (k := k) (i := i) (m := m) (runsM_iff.2 (by omega))).1 h
      have hb := run_bd hk hi hr
      exact endF hb.1 (by rw [hp]; exact hb.2.1) (by omega)
    · simp only [Bool.or_eq_true, beq_iff_eq, runsM_iff] at hc
      omega
  · rw [if_neg hc]
    simp only [Bool.or_eq_true, beq_iff_eq, runsM_iff] at hc
    have hs : m.status = 3 ∨ m.status = 4 ∨ m.status = 5 := by have := mark_st h; omega
    rw [mark_end hs] at h ⊢
    rw [endB_par hp]; exact h
end Go.Proofs.YtlhmgphgnedlkaaGreat
end
section
/- A state carried over: each mark is well-formed for the amended contract. -/
namespace Go.Proofs.YtlhmgphgnedlkaaGreat
open Go.Eng
set_option maxRecDepth 10000
theorem mark_kept {k k' : K} (hp : k'.parties = k.parties) {i : Nat} {m : Mk} (h : markB k i m = true) (hr : runsM m = false) (hw : m.status = 0 → (clAt k' i).waived = false) : markB k' i m = true := by
  rcases mark_st h with h0 | h1 | h1 | h3
  · obtain ⟨e, _⟩ := mark_idle h h0
    subst e
    unfold markB
    rw [if_pos h0, hw h0]
    rfl
  · have : runsM m = true := runsM_iff.2 (by omega)
    rw [this] at hr; cases hr
  · have : runsM m = true := runsM_iff.2 (by omega)
    rw [this] at hr; cases hr
  · rw [mark_end h3] at h ⊢
    rw [endB_par hp]; exact h
theorem span_keep {k k' : K} (hp : k'.parties = k.parties) {i : Nat} {d : Int} (hd : 1 ≤ d) (hc : clAt k' i = { clAt k i with after := d }) {m : Mk} (h : markB k i m = true) : markB k' i (spanM d (clAt k i) m) = true := by
  by_cases hr : runsM m = true
  · have hR := (markB_run hr).1 h
    obtain ⟨r1, r2, r3, r4, r5, r6⟩ := hR
    have hR' : RunF k' (clAt k' i) (spanM d (clAt k i) m) := by
      rw [hc]
      unfold spanM
      split
      · refine ⟨r1, ?_, r3, r4, by rw [hp]; exact r5, .inl ⟨by assumption, ?_⟩⟩
        · show 1 ≤ max 1 _; omega
        · show max 1 (m.left + d - (clAt k i).after) ≤ d; omega
      · refine ⟨r1, r2, r3, r4, by rw [hp]; exact r5, ?_⟩
        rcases r6 with r6 | r6
        · exact absurd r6.1 (by assumption)
        · exact .inr r6
    exact (markB_run hR'.runs).2 hR'
  · have hr : runsM m = false := by simpa using hr
    have he : spanM d (clAt k i) m = m := by
      unfold spanM
      rw [if_neg fun e => by rw [runsM_iff.2 (.inl e)] at hr; cases hr]
    rw [he]
    exact mark_kept hp h hr fun h0 => by rw [hc]; exact (mark_idle h h0).2
theorem repl_keep {k k' : K} (hk : KFacts k) (hk' : KFacts k') (hp : k'.parties = k.parties) {i : Nat} (hi : i < k.clauses.length) (hi' : i < k'.clauses.length) {new : Cl} (hc : clAt k' i = new) {hold : List Int} (hh : hold.length = k'.holders.length)
    (hd : ∀ j, j < hold.length → 0 ≤ hold.getD j default ∧ hold.getD j default < k.parties) {m : Mk} (h : markB k i m = true) : markB k' i (replM new (clAt k i) m hold) = true := by
  have hcb := hk'.clB hi'
  have hkw := kindW hcb.2.2.1
  have haf := hcb.2.1
  rw [hc] at hkw haf
  clear hcb
  unfold replM
  split
  · exact void_keep hk hp hi h
  · rename_i hw
    have hw : new.waived = false := by simpa using hw
    split
    · rename_i hr
      exact mark_kept hp h hr fun _ => by rw [hc]; exact hw
    · rename_i hr
      have hr : runsM m = true := by simpa using hr
      have hR := (markB_run hr).1 h
      have hbd := run_bd hk hi hR
      obtain ⟨r1, r2, r3, r4, r5, r6⟩ := hR
      split
      · rename_i hkk
        unfold contM
        split
        · exact endF (m := contP new m) hbd.1 (by rw [hp]; exact hbd.2.1) (by omega)
        · rename_i hne
          have hg : m.got = 0 ∨ (new.kind = 1 ∧ 0 ≤ m.got ∧ m.got < new.need) := by
            rcases r4 with r4 | r4
            · exact .inl r4
            · exact .inr ⟨by omega, r4.2.1, by omega⟩
          have hpa : (m.paused && (new.pause != -1)) = true → new.pause ≠ -1 := fun e => by
            simp only [Bool.and_eq_true, bne_iff_ne, ne_eq] at e; exact e.2
          have hbe : new.kind = 4 ∧ m.bearer = -1 ∨ new.kind ≠ 4 ∧ 0 ≤ m.bearer ∧ m.bearer < k'.parties := by rw [hp, hkk]; exact r5
          split
          · rename_i h1
            have hR' : RunF k' (clAt k' i) ⟨m.status, max 1 (m.left + new.after - (clAt k i).after), m.got, m.bearer, m.paused && (new.pause != -1)⟩ := by
              rw [hc]
              exact ⟨hw, by show 1 ≤ max 1 _; omega, hpa, hg, hbe, .inl ⟨h1, by show max 1 (m.left + new.after - (clAt k i).after) ≤ new.after; omega⟩⟩
            exact (markB_run hR'.runs).2 hR'
          · split
            · have hR' : RunF k' (clAt k' i) ⟨1, 1, m.got, m.bearer, m.paused && (new.pause != -1)⟩ := by
                rw [hc]
                exact ⟨hw, Int.le_refl _, hpa, hg, hbe, .inl ⟨rfl, haf.1⟩⟩
              exact (markB_run hR'.runs).2 hR'
            · rename_i h1 h2
              have hR' : RunF k' (clAt k' i) ⟨m.status, max 1 (m.left + new.grace - (clAt k i).grace), m.got, m.bearer, m.paused && (new.pause != -1)⟩ := by
                rw [hc]
                refine ⟨hw, by show 1 ≤ max 1 _; omega, hpa, hg, hbe, .inr ?_⟩
                rcases r6 with r6 | r6
                · exact absurd r6.1 h1
                · refine ⟨r6.1, by omega, ?_⟩
                  show max 1 (m.left + new.grace - (clAt k i).grace) ≤ new.grace
                  rcases hkw with hkw | ⟨_, _, hkw | hkw | hkw⟩ <;> omega
              exact (markB_run hR'.runs).2 hR'
      · rename_i hkk
        have hR' : RunF k' (clAt k' i) (restM (clAt k i) new m hold) := by
          rw [hc]
          refine ⟨hw, haf.1, fun e => (nomatch e), .inl rfl, ?_, .inl ⟨rfl, Int.le_refl _⟩⟩
          show new.kind = 4 ∧ (if new.kind = 4 then _ else _) = _ ∨ new.kind ≠ 4 ∧ 0 ≤ (if new.kind = 4 then _ else _) ∧ (if new.kind = 4 then _ else _) < _
          by_cases h4 : new.kind = 4
          · exact .inl ⟨h4, if_pos h4⟩
          · refine .inr ⟨h4, ?_⟩
            rw [if_neg h4]
            rcases hkw with hkw | hkw
            · exact absurd hkw.1 h4
            · split
              · rw [hp]; exact hd _ (by omega)
              · rename_i h5
                rcases r5 with r5 | r5
                · exact absurd r5.1 h5
                · rw [hp]; exact r5.2
        exact (markB_run hR'.runs).2 hR'
end Go.Proofs.YtlhmgphgnedlkaaGreat
end
section
/- A state carried over is well-formed. -/
namespace Go.Proofs.YtlhmgphgnedlkaaGreat
open Go.Eng
set_option maxRecDepth 10000
theorem foldSet_getD (f : Cl → Cl) (hf : ∀ x, f (f x) = f x) : ∀ (l : List Int) (cs : List Cl) (j : Nat), j < cs.length →
    ((∃ q, q < l.length ∧ (l.getD q default).toNat = j) → (l.foldl (fun cs i => cs.set i.toNat (f (cs.getD i.toNat default))) cs).getD j default = f (cs.getD j default)) ∧
    ((∀ q, q < l.length → (l.getD q default).toNat ≠ j) → (l.foldl (fun cs i => cs.set i.toNat (f (cs.getD i.toNat default))) cs).getD j default = cs.getD j default)
  | [], cs, j, hj => ⟨fun ⟨q, hq, _⟩ => absurd hq (Nat.not_lt_zero _), fun _ => rfl⟩
  | a :: l, cs, j, hj => by
    have hj' : j < (cs.set a.toNat (f (cs.getD a.toNat default))).length := by rw [List.length_set]; exact hj
    obtain ⟨h1, h2⟩ := foldSet_getD f hf l (cs.set a.toNat (f (cs.getD a.toNat default))) j hj'
    have hs : (cs.set a.toNat (f (cs.getD a.toNat default))).getD j default = if a.toNat = j then f (cs.getD j default) else cs.getD j default := by
      by_cases e : a.toNat = j
      · subst e; rw [if_pos rfl]; simp [List.getD, hj]
      · rw [if_neg e]; simp [List.getD, List.getElem?_set_ne e]
    rw [hs] at h1 h2
    refine ⟨fun ⟨q, hq, e⟩ => ?_, fun h => ?_⟩
    · rw [List.foldl_cons]
      by_cases hex : ∃ q, q < l.length ∧ (l.getD q default).toNat = j
      · rw [h1 hex]
        split
        · rw [hf]
        · rfl
      · have hne : ∀ q, q < l.length → (l.getD q default).toNat ≠ j := fun q hq e => hex ⟨q, hq, e⟩
        cases q with
        | zero =>
          have e : a.toNat = j := e
          rw [h2 hne, if_pos e]
        | succ q => exact absurd ⟨q, by simpa using hq, e⟩ hex
    · rw [List.foldl_cons]
      have ha : a.toNat ≠ j := h 0 (by simp)
      rw [h2 fun q hq => h (q + 1) (by simpa using hq), if_neg ha]
theorem waiveL_getD (cs : List Cl) (l : List Int) (j : Nat) (hj : j < cs.length) :
    ((∃ q, q < l.length ∧ (l.getD q default).toNat = j) → (waiveL cs l).getD j default = { cs.getD j default with waived := true }) ∧ ((∀ q, q < l.length → (l.getD q default).toNat ≠ j) → (waiveL cs l).getD j default = cs.getD j default) :=
  foldSet_getD (fun x => { x with waived := true }) (fun _ => rfl) l cs j hj
theorem spanL_getD (d : Int) (cs : List Cl) (l : List Int) (j : Nat) (hj : j < cs.length) :
    ((∃ q, q < l.length ∧ (l.getD q default).toNat = j) → (spanL d cs l).getD j default = { cs.getD j default with after := d }) ∧ ((∀ q, q < l.length → (l.getD q default).toNat ≠ j) → (spanL d cs l).getD j default = cs.getD j default) :=
  foldSet_getD (fun x => { x with after := d }) (fun _ => rfl) l cs j hj
theorem PFacts.stay {k : K} {p : Pt} (h : PFacts k p) {i : Nat} (hi : i < k.clauses.length) (hn : ∀ q, q < (listP k p).length → ((listP k p).getD q default).toNat ≠ i) : clAt (applyR k p).1 i = clAt k i := by
  unfold clAt
  rw [h.eq]
  show (doP k.clauses p).getD i default = _
  unfold doP
  unfold listP at hn
  split
  · simp [List.getD, List.getElem?_append_left hi]
  · rename_i h1
    rw [if_neg h1] at hn
    split
    · rename_i h2
      obtain ⟨x, hx, _⟩ := h.one h2
      rw [hx] at hn ⊢
      have : x.toNat ≠ i := hn 0 (by simp)
      show (k.clauses.set x.toNat p.new).getD i default = _
      simp [List.getD, List.getElem?_set_ne this]
    · split
      · exact (spanL_getD p.days k.clauses p.clauses i hi).2 hn
      · exact (waiveL_getD k.clauses p.clauses i hi).2 hn
theorem markB_same {k k' : K} (hp : k'.parties = k.parties) {i : Nat} (hc : clAt k' i = clAt k i) (m : Mk) : markB k' i m = markB k i m := by
  unfold markB runB endB
  rw [hp, hc]
theorem mig_mark {k : K} {p : Pt} (h : PFacts k p) {s : St} (hv : validS k s = true) {i : Nat} (hi : i < (applyR k p).1.clauses.length) : markB (applyR k p).1 i (migM k p s i) = true := by
  obtain ⟨l0, l1, l2, l3, l4, l5, l6, l7⟩ := validS_len hv
  have hpar : (applyR k p).1.parties = k.parties := by rw [h.eq]
  have hhold : s.holders.length = (applyR k p).1.holders.length := by rw [h.eq]; exact l1
  have hlen := h.len
  have hpp := h.kk.parties
  by_cases hex : ∃ q, q < (listP k p).length ∧ ((listP k p).getD q default).toNat = i
  · obtain ⟨q, hq, e⟩ := hex
    have hm : migM k p s i = chgM k p s.holders i (padM s.marks i) := by
      unfold migM
      have := h.lok.in (k := k) (p := p) (hold := s.holders) (m0 := padM s.marks) hq
      rwa [e] at this
    rw [hm]
    by_cases k1 : p.kind = 1
    · have hin : i = k.clauses.length := by
        unfold listP at hq e
        rw [if_pos k1] at hq e
        have : q = 0 := by simpa using hq
        subst this
        exact e.symm
      have hpad : padM s.marks i = idleMk := by unfold padM; rw [if_neg (by omega)]
      have hcl := (h.add k1).2
      rw [← hin] at hcl
      unfold chgM
      rw [if_neg (by omega), if_neg (by omega), if_pos k1, hpad]
      unfold addM
      split
      · show markB _ i (voidM idleMk) = true
        exact end_idle (by omega) (by omega) i 5 (by omega)
      · rename_i hw
        unfold markB
        rw [if_pos (show idleMk.status = 0 from rfl), hcl]
        have hw : p.new.waived = false := by simpa using hw
        rw [hw]; rfl
    · have hik : i < k.clauses.length := by rw [hlen, if_neg k1] at hi; exact hi
      have hpad : padM s.marks i = s.marks.getD i default := by unfold padM; rw [if_pos (by omega)]
      have hmk := l7 i (by omega)
      simp only [Bool.and_eq_true] at hmk
      have hmk := hmk.1
      rw [hpad]
      have hLp : listP k p = p.clauses := if_neg k1
      rw [hLp] at hq e
      unfold chgM
      split
      · rename_i k5
        have hd := h.days k5
        refine span_keep hpar hd.1 ?_ hmk
        unfold clAt
        rw [h.eq]
        show (doP k.clauses p).getD i default = _
        unfold doP
        rw [if_neg k1, if_neg (by omega), if_pos k5]
        exact (spanL_getD p.days k.clauses p.clauses i hik).1 ⟨q, hq, e⟩
      · split
        · rename_i k2
          obtain ⟨x, hx, hx1, hx2, hx3⟩ := h.one k2
          have hxi : x.toNat = i := by
            rw [hx] at hq e
            have : q = 0 := by simpa using hq
            subst this
            exact e
          rw [hxi] at hx3
          exact repl_keep h.kk h.kn hpar hik hi hx3 hhold l5 hmk
        · exact void_keep h.kk hpar hik hmk
  · have hne : ∀ q, q < (listP k p).length → ((listP k p).getD q default).toNat ≠ i := fun q hq e => hex ⟨q, hq, e⟩
    have hm : migM k p s i = padM s.marks i := mkTo_keep hne
    have hik : i < k.clauses.length := by
      rw [hlen] at hi
      split at hi
      · rename_i k1
        have h0 := hne 0 (by unfold listP; rw [if_pos k1]; simp)
        unfold listP at h0
        rw [if_pos k1] at h0
        have h0 : k.clauses.length ≠ i := h0
        omega
      · exact hi
    have hpad : padM s.marks i = s.marks.getD i default := by unfold padM; rw [if_pos (by omega)]
    have hmk := l7 i (by omega)
    simp only [Bool.and_eq_true] at hmk
    rw [hm, hpad, markB_same hpar (h.stay hik hne)]
    exact hmk.1
theorem mig_WOk {k : K} {p : Pt} (h : PFacts k p) {s : St} (hv : validS k s = true) : WOk (applyR k p).1 (migW k p s) := by
  obtain ⟨l0, l1, l2, l3, l4, l5, l6, l7⟩ := validS_len hv
  unfold migW
  refine startW_keep h.kn ⟨?_, fun i hi => ?_, fun i hi hu => ?_, fun i hi => mig_mark h hv hi⟩
  · rw [h.eq]; exact l4
  · rw [h.eq] at hi ⊢
    have hi : i < k.holders.length := hi
    exact l5 i (by omega)
  · rw [h.eq] at hi ⊢
    have hi : i < k.acts.length := hi
    exact (validS_W hv).used i hi hu
end Go.Proofs.YtlhmgphgnedlkaaGreat
end
section
/- The law SystemStates. -/
namespace Go.Proofs.YtlhmgphgnedlkaaGreat
open Go.Eng
set_option maxRecDepth 10000
section
variable {k : K} {w : Wk} {i : Nat}
theorem outS_mark (hi : i < k.clauses.length) : (outS k w).marks.getD i default = w.mark i := map_getD _ hi
theorem outS_hold (hi : i < k.holders.length) : (outS k w).holders.getD i default = w.hold i := map_getD _ hi
theorem outS_used (hi : i < k.acts.length) : (outS k w).used.getD i default = w.used i := map_getD _ hi
end
theorem rdyB_congr {k : K} (hk : KFacts k) {mk mk' : Nat → Mk} (h : ∀ j, j < k.clauses.length → mk j = mk' j) {i : Nat} (hi : i < k.clauses.length) : rdyB k mk i = rdyB k mk' i := by
  unfold rdyB
  rw [h i hi]
  have : (clAt k i).start.all (condHB mk) = (clAt k i).start.all (condHB mk') := by
    rw [Bool.eq_iff_iff, List.all_eq_true, List.all_eq_true]
    have key : ∀ c ∈ (clAt k i).start, condHB mk c = condHB mk' c := fun c hc => by
      have := hk.cond hi hc
      unfold condHB
      rw [h c.clause.toNat (by omega)]
    constructor <;> intro h c hc
    · rw [← key c hc]; exact h c hc
    · rw [key c hc]; exact h c hc
  rw [this]
theorem validS_of {k : K} (hk : kW k) (h0 : (kValid k).1 = 0) {w : Wk} (hw : WOk k w) : validS k (outS k w) = true := by
  have hF := (show kOk k from ⟨hk, h0⟩).facts
  unfold validS
  rw [if_neg (by simpa using h0), if_neg (by rw [show decide ((outS k w).day < 0) = false from decide_eq_false (by show ¬ w.day < 0; have := hw.day; omega), show decide (k.days < (outS k w).day) = false from decide_eq_false (by show ¬ k.days < w.day; have := hw.day; omega)]; simp [outS]), if_neg, if_neg]
  · refine rall.2 fun i hi => ?_
    have hi : i < k.clauses.length := by simpa [outS] using hi
    rw [outS_mark hi, hw.mark i hi, rdyB_congr hF (mk := (outS k w).wk.mark) (mk' := w.mark) (fun j hj => outS_mark hj) hi, hw.rdy i hi]
    rfl
  · rw [Bool.not_eq_false]
    refine rall.2 fun i hi => ?_
    have hi : i < k.acts.length := by simpa [outS] using hi
    rw [outS_used hi]
    cases hu : w.used i with
    | false => rfl
    | true => have := hw.used i hi hu; simpa using this
  · rw [Bool.not_eq_false]
    refine all_at.2 fun i hi => ?_
    have hi : i < k.holders.length := by simpa [outS] using hi
    rw [outS_hold hi]
    have := hw.hold i hi
    simp; omega
theorem held_at {k : K} (hk : KFacts k) : ∀ i, i < k.holders.length → 0 ≤ k.holders.getD i default ∧ k.holders.getD i default < k.parties := fun i hi => by
  have := all_at.1 hk.held i hi
  simp only [Bool.and_eq_true, decide_eq_true_eq] at this
  exact this
theorem startS_zero {k : K} (hk : kW k) (h : (startS k).2 = 0) : (kValid k).1 = 0 ∧ validS k (startS k).1 = true ∧ (startS k).1.day = 0 := by
  unfold startS at h ⊢
  split at h
  · cases h
  · rename_i h1
    have h1 : (kValid k).1 = 0 := by simpa using h1
    have hF := (show kOk k from ⟨hk, h1⟩).facts
    rw [if_neg (by simpa using h1)]
    exact ⟨h1, validS_of hk h1 (initW_keep hF (held_at hF)), (startW_spec k (initW k)).1.day⟩
theorem stepS_cases {k : K} (hk : kW k) (s : St) (t : Int) : ((validS k s = false ∨ t < -1 ∨ (k.acts.length : Int) ≤ t) ∧ stepS k s t = (zS, 1)) ∨
    ((validS k s = true ∧ -1 ≤ t ∧ t < k.acts.length) ∧ s.day = k.days ∧ stepS k s t = (zS, 13)) ∨
    ((validS k s = true ∧ -1 ≤ t ∧ t < k.acts.length) ∧ s.day ≠ k.days ∧ stepS k s t = (outS k (stepW k s.wk t), 0) ∧ WOk k (stepW k s.wk t)) := by
  unfold stepS
  split
  · rename_i h
    simp only [Bool.or_eq_true, Bool.not_eq_true', decide_eq_true_eq] at h
    exact .inl ⟨by rcases h with (h | h) | h <;> simp [h], rfl⟩
  · rename_i h
    simp only [Bool.or_eq_true, Bool.not_eq_true', decide_eq_true_eq, not_or, Bool.not_eq_false] at h
    obtain ⟨⟨h1, h2⟩, h3⟩ := h
    split
    · rename_i h4
      exact .inr (.inl ⟨⟨h1, by omega, by omega⟩, h4, rfl⟩)
    · rename_i h4
      have hl := validS_len h1
      have hF := (show kOk k from ⟨hk, hl.1⟩).facts
      exact .inr (.inr ⟨⟨h1, by omega, by omega⟩, h4, rfl, stepW_keep hF (validS_W h1) ⟨by omega, by omega⟩ (by show s.day < k.days; omega)⟩)
end Go.Proofs.YtlhmgphgnedlkaaGreat
end
section
/- A state carried over: the state that is returned. -/
namespace Go.Proofs.YtlhmgphgnedlkaaGreat
open Go.Eng
set_option maxRecDepth 10000
theorem range_getD {α : Type} [Inhabited α] (l : List α) (f : Nat → α) (n : Nat) (hn : l.length = n) (hf : ∀ i, f i = l.getD i default) : (List.range n).map f = l := by
  apply List.ext_getElem?
  intro i
  rw [List.getElem?_map]
  by_cases h : i < n
  · rw [List.getElem?_range h, Option.map_some, hf, List.getD_eq_getElem?_getD, List.getElem?_eq_getElem (by omega)]
    rfl
  · rw [List.getElem?_eq_none (by simp; omega), List.getElem?_eq_none (by omega)]; rfl
theorem migW_rel {k : K} {p : Pt} {s : St} : SRel (applyR k p).1 ⟨s.day, fun i => s.holders.getD i default, fun i => s.used.getD i default, migM k p s⟩ (migW k p s) := (startW_spec _ _).1
theorem migS_eq {k : K} {p : Pt} (h : PFacts k p) {s : St} (hv : validS k s = true) : migS k p s = outS (applyR k p).1 (migW k p s) := by
  obtain ⟨l0, l1, l2, l3, -⟩ := validS_len hv
  have hr := migW_rel (k := k) (p := p) (s := s)
  have h1 : (List.range (applyR k p).1.holders.length).map (migW k p s).hold = s.holders := range_getD _ _ _ (by rw [h.eq]; exact l1) fun i => by rw [hr.hold]
  have h2 : (List.range (applyR k p).1.acts.length).map (migW k p s).used = s.used := range_getD _ _ _ (by rw [h.eq]; exact l2) fun i => by rw [hr.used]
  unfold migS outS
  rw [h1, h2, hr.day]
theorem migS_valid {k : K} {p : Pt} (hk : kW k) (hp : ptW p) (h0 : (applyR k p).2 = 0) {s : St} (hv : validS k s = true) : validS (applyR k p).1 (migS k p s) = true := by
  have h := patch_facts hk hp h0
  rw [migS_eq h hv]
  have hkk : kW (applyR k p).1 ∧ (kValid (applyR k p).1).1 = 0 := by
    refine ⟨applyR_W hk hp, ?_⟩
    rcases applyR_cases k p with ⟨h2, _⟩ | ⟨_, _, _, h2, _⟩
    · exact absurd h0 h2
    · exact h2
  exact validS_of hkk.1 hkk.2 (mig_WOk h hv)
end Go.Proofs.YtlhmgphgnedlkaaGreat
end
