import Derived.Test.YtlhmgphgnedlkaaGreatZz13
import Derived.Test.YtlhmgphgnedlkaaGreatZz27
import Derived.Test.YtlhmgphgnedlkaaGreatZz14
import Derived.Test.YtlhmgphgnedlkaaGreatZz12
import Derived.Test.YtlhmgphgnedlkaaGreatZz24
section
/- Contracts: tally.sums, Given, Received. -/
namespace Go.Proofs.YtlhmgphgnedlkaaGreat
open Go.Eng
set_option maxRecDepth 10000
theorem kOk.units {k : K} (h : kOk k) : k.units.length ≤ 20 := by
  obtain ⟨hw, hv⟩ := h
  unfold kValid at hv
  split at hv
  · simp at hv
  · rename_i h1
    simp only [Bool.or_eq_true, decide_eq_true_eq, not_or] at h1
    omega
theorem tlRec_eq (mk : LoopState → Option Code → Array Value → Obj) (e : Int) : tlRec mk e = mk (if e = 0 then .ready else .done) (if e = 0 then none else some .ret) := by
  unfold tlRec; split <;> rfl
theorem moves1_ok' (k : K) (hk : kW k) (l : List Int) (hc : checkR k l = 0) (party : Int) (fid : Nat) (L b : Nat) (mk : LoopState → Option Code → Array Value → Obj) (ch : TMv → Int)
    (hY : ∀ i, i < l.length → ∀ m, mvAt k l i = some m → ∀ s : Tl, (∀ u, qW (s.1 u)) → s.2.1 = 0 → DoesR Tryz.prog L [mvV m] (.lrec (mk .ready none) b (tlCs party fid 1) :: tlO k.units.length s) (.c (.bool (decide ((tlStep ch party s.1 m).2 = 0))))
      (.lrec (tlRec mk (tlStep ch party s.1 m).2) b (tlCs party fid 1) :: tlO k.units.length ((tlStep ch party s.1 m).1, (tlStep ch party s.1 m).2, s.2.2))) :
    DoesM Tryz.prog 113 [.fn (.yield L) [] [], .rptr (kC k), .rptr [intsV l]] (.lrec (mk .ready none) b (tlCs party fid 1) :: tlO k.units.length (tlT ch party (mvAt k l) 0)) (.tup [])
      (.lrec (mk (if (tlT ch party (mvAt k l) l.length).2.1 = 0 then .ready else .done) (if (tlT ch party (mvAt k l) l.length).2.1 = 0 then none else some .ret)) b (tlCs party fid 1) :: tlO k.units.length (tlT ch party (mvAt k l) l.length)) := by
  rw [← tlRec_eq mk]
  exact moves1_ok k hk l hc party fid L b mk ch hY
noncomputable def sumsR (k : K) (l : List Int) (party : Int) (ch : TMv → Int) : (Nat → Q) × Int :=
  if checkR k l ≠ 0 then (fun _ => (0, 1), checkR k l)
  else if party < 0 ∨ k.parties ≤ party then (fun _ => (0, 1), 1)
  else ((tlT ch party (mvAt k l) l.length).1, (tlT ch party (mvAt k l) l.length).2.1)
theorem mv_facts {k : K} (hF : KFacts k) {l : List Int} (hl : stepsOk k l) {i : Nat} (hi : i < l.length) {m : TMv} (h : mvAt k l i = some m) :
    ∃ ac : Act, l.getD i default ≠ -1 ∧ ac = acAt k (l.getD i default).toNat ∧ (0 ≤ m.unit ∧ m.unit < k.units.length) ∧ posB m.val = true ∧ m.unit = ac.unit ∧ m.val = ac.lot ∧ (0 ≤ ac.role ∧ ac.role < k.holders.length) ∧ (ac.to = -1 ∨ 0 ≤ ac.to ∧ ac.to < k.holders.length) ∧
      m.giver = (followR k l i).hold ac.role.toNat ∧ m.recv = (if ac.to ≠ -1 then (followR k l i).hold ac.to.toNat else -1) := by
  unfold mvAt at h
  split at h
  · cases h
  · rename_i h1
    injection h with h
    subst h
    have hz := (hl i hi).resolve_left fun h => h1 (.inl h)
    have ha := act_unit (hF.act (l.getD i default).toNat (by omega)) (fun h => h1 (.inr h))
    exact ⟨_, fun h => h1 (.inl h), rfl, ha.2.2.1, ha.2.2.2, rfl, rfl, ha.1, ha.2.1, rfl, rfl⟩
theorem posB_W {q : Q} (h : posB q = true) : qW q := by
  simp only [posB, Bool.and_eq_true] at h
  exact qOk_W h.2
theorem sumsT_ok (k : K) (hk : kW k) (l : List Int) (party : Int) (fid : Nat) (ch : TMv → Int) (hch : ∀ m, Does Tryz.prog fid [mvV m] (.c (.int .i64 (ch m)))) :
    Does Tryz.prog 47 [kV k, intsV l, .c (.int .i64 party), .fn (.func fid) [] []] (sumsV k.units.length (sumsR k l party ch)) := by
  refine Does.mk (fun _ => false) TT_ok Tryz.func47 rfl (by kernel_rfl) Tryz.ntmps47 rfl rfl fun E hT hE hN hR => ?_
  have hm := mixO hE
  (repeat (first | refine XK.n ?_ | refine XK.a ?_ | refine XK.b ?_)); refine XK.region ?_; refine XL.g ?_
  refine XL.callLA hE rfl rfl rfl rfl trivial rfl (check17_ok k hk l) rfl ?_
  refine XL.g ?_; refine XL.fin ?_; (repeat (first | refine XK.n ?_ | refine XK.a ?_ | refine XK.b ?_))
  (repeat (first | refine XK.n ?_ | refine XK.a ?_ | refine XK.b ?_)); refine XK.cond rfl (fun h1 => ?_) (fun h1 => ?_)
  · have h1 : checkR k l ≠ 0 := by simpa using h1
    (repeat (first | refine XK.n ?_ | refine XK.a ?_ | refine XK.b ?_))
    (first | refine XK.outL rfl rfl rfl ?_ | refine XK.outLN rfl rfl rfl ?_)
    rw [sumsR, if_pos h1]
    exact sumsV_err rfl h1
  · have h1 : checkR k l = 0 := by simpa using h1
    obtain ⟨h2, h3, h4, -⟩ := checkR_ok hk h1
    have hF := h2.facts
    have hun := h2.units
    rw [sumsR, if_neg (by simpa using h1)]
    (repeat (first | refine XK.n ?_ | refine XK.a ?_ | refine XK.b ?_)); refine XK.cond rfl (fun h5 => ?_) (fun h5 => ?_)
    · have h5 : party < 0 ∨ k.parties ≤ party := by simpa using h5
      (repeat (first | refine XK.n ?_ | refine XK.a ?_ | refine XK.b ?_))
      (first | refine XK.outL rfl rfl rfl ?_ | refine XK.outLN rfl rfl rfl ?_)
      rw [if_pos h5]
      exact sumsV_err rfl (by simp)
    · have h5 : ¬ (party < 0 ∨ k.parties ≤ party) := by simpa using h5
      rw [if_neg h5]
      (repeat (first | refine XK.n ?_ | refine XK.a ?_ | refine XK.b ?_))
      refine XK.loop (ι := Nat) (fun i => ST.of [(1, intsV l), (4, .rptr (kC k)), (6, .rptr [.c (.int .i64 party)]), (7, .rptr [.fn (.func fid) [] []]), (8, .ptr 8 0), (9, .ptr 9 0), (11, .ptr 311 0), (35, .c (.int .i64 k.units.length)), (36, .c (.int .i64 i))]
        [(8, .cells 61 [.c (.slice none 0 0)]), (9, .cells 32 [.c (.int .i64 0)]), (311, .cells 61 [.vec 333 0]), (333, ratsN k.units.length (fun j => if j < i then (0, 1) else (0, 0)))] 2000 75 (fun _ => false))
        (fun i => i ≤ k.units.length) (fun i => k.units.length - i) 0 (Nat.zero_le _)
        (Weak.trans (Weak.frozenC (k := 4) hN rfl rfl rfl) (Weak.trans (Weak.frozenC (k := 6) hN rfl rfl rfl) (Weak.trans (Weak.frozenC (k := 7) hN rfl rfl rfl) (Weak.of hN rfl rfl rfl frI frI)))) fun i hi => ?_
      (repeat (first | refine XK.n ?_ | refine XK.a ?_ | refine XK.b ?_)); refine XK.cond rfl (fun hlt => ?_) (fun hlt => ?_) <;> (try simp at hlt)
      · (repeat (first | refine XK.n ?_ | refine XK.a ?_ | refine XK.b ?_))
        refine XK.inv ⟨i + 1, hlt, ?_, by omega⟩
        refine Weak.of hN rfl rfl rfl frI ⟨frI, frI, frI, ⟨rfl, rfl, rfl⟩, rfl, ?_⟩
        intro j hj
        by_cases hji : j = i
        · subst hji; simp [setRowF, setL]
        · simp [setRowF, beq_false hji, lt_succ_ne hji]
      · have hie : i = k.units.length := by omega
        subst hie
        (repeat (first | refine XK.n ?_ | refine XK.a ?_ | refine XK.b ?_)); refine XK.region ?_; refine XL.g ?_
        refine XL.callKA hE rfl rfl rfl rfl trivial rfl rfl (moves_ok k l) ?_
        refine XL.g ?_; refine XL.fin ?_; (repeat (first | refine XK.n ?_ | refine XK.a ?_ | refine XK.b ?_))
        refine XK.weak (Weak.of (L := [(6, .rptr [.c (.int .i64 party)]), (7, .rptr [.fn (.func fid) [] []]), (8, .ptr 8 0), (9, .ptr 9 0), (11, .ptr 311 0), (46, .fn (.func 113) [] [.rptr (kC k), .rptr [intsV l]])])
          (O := [(8, .cells 61 [.c (.slice none 0 0)]), (9, .cells 32 [.c (.int .i64 0)]), (311, .cells 61 [.vec 333 0]), (333, ratsN k.units.length (fun _ => (0, 1)))]) (nx := 3000) (nt := 75) (md := fun _ => false) hN rfl rfl rfl frI ⟨frI, frI, frI, ⟨rfl, rfl, rfl⟩, rfl, fun j hj => by simp [hj]⟩) ?_
        generalize hsf : tlT ch party (mvAt k l) l.length = sf
        refine XK.rangeFunc 900 [311, 333, 8, 9] (frL 75 [(6, .rptr [.c (.int .i64 party)]), (7, .rptr [.fn (.func fid) [] []]), (8, .ptr 8 0), (9, .ptr 9 0), (11, .ptr 311 0)])
          (ST.of [(8, .ptr 8 0), (9, .ptr 9 0), (11, .ptr 311 0)] [(311, .cells 61 [.vec 333 0]), (333, ratsN k.units.length sf.1), (8, .cells 61 [.c (.slice none 0 0)]), (9, .cells 32 [.c (.int .i64 sf.2.1)])] 4000 75 (fun _ => false))
          (res := .tup []) (args' := [.rptr (kC k), .rptr [intsV l]]) (s := if sf.2.1 = 0 then .ready else .done) (pend := if sf.2.1 = 0 then none else some .ret) (O' := tlO k.units.length sf) (O := tlO k.units.length (tlT ch party (mvAt k l) 0)) hR rfl trivial rfl (frL_length _ _) (frL_is frI) (fun L D fn => ?_) rfl frI rfl rfl frI rfl rfl (by split <;> simp) (fun L D fn cs => (Weak.of hN rfl rfl rfl frI frI)) ?_
        · rw [← hsf, hE]
          refine moves1_ok' k hk l h1 party fid L L (recOf fn _ _ _ D) ch (fun i hi m hm s hsw hs0 => ?_)
          obtain ⟨ac, _, _, hu, hp, -⟩ := mv_facts hF h3 hi hm
          have hpw := posB_W hp
          clear hsf
          obtain ⟨q, e, sp⟩ := s
          simp only at hs0 hsw
          subst hs0
          have hchm := hch m
          refine DoesR.mkT TT_ok (fun _ => false) 100 (ST.of [(6, .rptr [.c (.int .i64 party)]), (7, .rptr [.fn (.func fid) [] []]), (8, .ptr 3 0), (9, .ptr 4 0), (11, .ptr 1 0), (13, .ptr 113 0)]
            [(0, .lrec (recOf fn _ _ _ D .ready none) L (tlCs party fid 1)), (1, .cells 61 [.vec 2 0]), (2, ratsN k.units.length q), (3, .cells 61 [.c (.slice none 0 0)]), (4, .cells 32 [.c (.int .i64 0)]), (113, .cells 114 [.c (.int .i64 m.unit), .c (.int .i64 m.val.1), .c (.int .i64 m.val.2), .c (.int .i64 m.giver), .c (.int .i64 m.recv)])] 1000 75 (fun _ => false)) rfl ?_ (Nat.le_refl 4) (fun E hT hE hN hR => ?_) rfl (fun E hT hE hN hR => ?_)
          · intro x hx
            simp only [List.mem_toArray, List.mem_singleton] at hx
            subst hx
            show 47 < (frL 75 _).length
            rw [frL_length]
            decide
          · have hm := mixO hE
            (repeat (first | refine XK.n ?_ | refine XK.a ?_ | refine XK.b ?_))
            exact XK.nil ⟨rfl, (Weak.of hN rfl rfl rfl frI frI)⟩
          · have hm := mixO hE
            have hse : tlStep ch party q m = if ch m ≠ party then (q, 0) else if (addR (q m.unit.toNat) m.val).2 ≠ 0 then (q, 2) else (setQ q m.unit.toNat (addR (q m.unit.toNat) m.val).1, 0) := rfl
            rw [hse]
            (repeat (first | refine XK.n ?_ | refine XK.a ?_ | refine XK.b ?_)); refine XK.drawn hm ?_; refine XD.goA hT rfl rfl rfl rfl ?_
            refine XD.callLA hE rfl rfl rfl rfl trivial rfl (hchm) rfl ?_
            refine XD.goA hT rfl rfl rfl rfl ?_; refine XD.fin (by kernel_rfl) ?_; (repeat (first | refine XK.n ?_ | refine XK.a ?_ | refine XK.b ?_))
            (repeat (first | refine XK.n ?_ | refine XK.a ?_ | refine XK.b ?_)); refine XK.cond rfl (fun h6 => ?_) (fun h6 => ?_) <;> (try simp at h6)
            · rw [if_pos h6]
              (repeat (first | refine XK.n ?_ | refine XK.a ?_ | refine XK.b ?_))
              (first | refine XK.outY [0, 1, 2, 3, 4] hN rfl rfl rfl ?_ ?_ ?_ | refine XK.outYN [0, 1, 2, 3, 4] hN rfl rfl rfl ?_ ?_ ?_)
              · (repeat' (first | exact rfl | exact AvIs.refl _ | exact trivial | exact fun _ _ => rfl | exact fun _ _ => ⟨rfl, AvIs.refl _⟩ | refine ⟨?_, ?_⟩))
              · rfl
              · rfl
            · rw [if_neg (by simpa using h6)]
              (repeat (first | refine XK.n ?_ | refine XK.a ?_ | refine XK.b ?_)); refine XK.drawn hm ?_; refine XD.goA hT rfl rfl rfl rfl ?_
              refine XD.callLA hE rfl rfl rfl rfl trivial rfl (add_ok (q m.unit.toNat) m.val (hsw _) hpw) rfl ?_
              refine XD.goA hT rfl rfl rfl rfl ?_; refine XD.fin (by kernel_rfl) ?_; (repeat (first | refine XK.n ?_ | refine XK.a ?_ | refine XK.b ?_))
              generalize addR (q m.unit.toNat) m.val = ad at *
              (repeat (first | refine XK.n ?_ | refine XK.a ?_ | refine XK.b ?_)); refine XK.cond rfl (fun h7 => ?_) (fun h7 => ?_) <;> (try simp at h7)
              · rw [if_pos h7]
                (repeat (first | refine XK.n ?_ | refine XK.a ?_ | refine XK.b ?_))
                (first | refine XK.outY [0, 1, 2, 3, 4] hN rfl rfl rfl ?_ ?_ ?_ | refine XK.outYN [0, 1, 2, 3, 4] hN rfl rfl rfl ?_ ?_ ?_)
                · (repeat' (first | exact rfl | exact AvIs.refl _ | exact trivial | exact fun _ _ => rfl | exact fun _ _ => ⟨rfl, AvIs.refl _⟩ | refine ⟨?_, ?_⟩))
                · rfl
                · rfl
              · rw [if_neg (by simpa using h7)]
                (repeat (first | refine XK.n ?_ | refine XK.a ?_ | refine XK.b ?_))
                (first | refine XK.outY [0, 1, 2, 3, 4] hN rfl rfl rfl ?_ ?_ ?_ | refine XK.outYN [0, 1, 2, 3, 4] hN rfl rfl rfl ?_ ?_ ?_)
                · refine ⟨⟨rfl, rfl, rfl⟩, frI, ⟨⟨rfl, rfl, rfl⟩, rfl, ?_⟩, frI, frI⟩
                  intro j hj
                  by_cases hji : j = m.unit.toNat
                  · subst hji; simp [setRowF, setL, setQ]
                  · simp [setRowF, beq_false hji, setQ, hji]
                · rfl
                · rfl
        · by_cases herr : sf.2.1 = 0
          · rw [if_pos herr]
            (repeat (first | refine XK.n ?_ | refine XK.a ?_ | refine XK.b ?_))
            refine XK.weak (Weak.trans (Weak.frozen (k := 333) hN rfl rfl) (Weak.of (L := [(8, .ptr 8 0), (9, .ptr 9 0)]) (O := [(8, .cells 61 [ratV k.units.length sf.1]), (9, .cells 32 [.c (.int .i64 0)])]) (nx := 5000) (nt := 75) (md := fun _ => false) hN rfl rfl rfl frI frI)) ?_
            (first | refine XK.outL rfl rfl rfl ?_ | refine XK.outLN rfl rfl rfl ?_)
            exact sumsV_ok herr fun _ => rfl
          · rw [if_neg herr]
            show XK E [.code .ret, _, _] _ _
            (repeat (first | refine XK.n ?_ | refine XK.a ?_ | refine XK.b ?_))
            (first | refine XK.outL rfl rfl rfl ?_ | refine XK.outLN rfl rfl rfl ?_)
            exact sumsV_err rfl herr
end Go.Proofs.YtlhmgphgnedlkaaGreat
end
section
/- Ratios as rational numbers. -/
namespace Go.Proofs.YtlhmgphgnedlkaaGreat
open Go.Eng
end Go.Proofs.YtlhmgphgnedlkaaGreat
end
section
/- Contracts: ratio.Sub, ratio.Mul. -/
namespace Go.Proofs.YtlhmgphgnedlkaaGreat
open Go.Eng
set_option maxRecDepth 10000
end Go.Proofs.YtlhmgphgnedlkaaGreat
end
section
/- Contracts: package remedy: valid, Interest, Capped. -/
namespace Go.Proofs.YtlhmgphgnedlkaaGreat
open Go.Eng
set_option maxRecDepth 10000
structure Tm where
  unit : Int
  rate : Q
  cap : Q
end Go.Proofs.YtlhmgphgnedlkaaGreat
end
section
/- Contracts: package remedy: asked, add, collect. -/
namespace Go.Proofs.YtlhmgphgnedlkaaGreat
open Go.Eng
set_option maxRecDepth 10000
end Go.Proofs.YtlhmgphgnedlkaaGreat
end
section
/- Contracts: package remedy: claims. -/
namespace Go.Proofs.YtlhmgphgnedlkaaGreat
open Go.Eng
set_option maxRecDepth 10000
end Go.Proofs.YtlhmgphgnedlkaaGreat
end
section
/- Contracts: package remedy: the claims, one after the other. -/
namespace Go.Proofs.YtlhmgphgnedlkaaGreat
open Go.Eng
set_option maxRecDepth 10000
end Go.Proofs.YtlhmgphgnedlkaaGreat
end
section
/- The reading of a trace, clause by clause: plain laws. -/
namespace Go.Proofs.YtlhmgphgnedlkaaGreat
open Go.Eng
set_option maxRecDepth 10000
structure Rel (k : K) (r r' : Rd) : Prop where
  hold : r'.hold = r.hold
  steps : r'.steps = r.steps
  wait : ∀ z x, x ∈ r'.wait z → x ∈ r.wait z
  out : ∀ j, r'.out j = r.out j ∨ ((r.out j).from_ < 0 ∧ (∃ z, (j : Int) ∈ r.wait z) ∧ r'.out j = startOne k r j)
end Go.Proofs.YtlhmgphgnedlkaaGreat
end
section
/- The life of a clause in a trace: plain laws. -/
namespace Go.Proofs.YtlhmgphgnedlkaaGreat
open Go.Eng
set_option maxRecDepth 10000
def plainC (k : K) (x : Cl) : Prop := x.pause < 0 ∧ (x.business = false ∨ k.off = [])
inductive CInv (k : K) (x : Cl) (l : List Int) (n : Nat) (o : Oc) (c : Int × Bool) : Prop
  | waived (hw : x.waived = true) (ho : o = ⟨5, -1, 0, 0, -1⟩)
  | idle (hw : x.waived = false) (ho : o = ⟨0, -1, -1, 0, -1⟩) (hc : c = (0, false))
  | run (f : Nat) (hw : x.waived = false) (hf : o.from_ = f) (hfn : f ≤ n) (ht : o.to = -1) (hst : o.status = 1 ∨ o.status = 2) (h2 : o.status = 2 ↔ x.after ≤ c.1) (hc0 : 0 ≤ c.1) (hc1 : c.1 < x.after + x.grace)
      (hg1 : x.kind = 1 → 0 ≤ o.got ∧ o.got < x.need) (hg : x.kind ≠ 1 → o.got = 0) (hd : c.1 ≤ daysTo l n - daysTo l f) (hp : plainC k x → c.1 = daysTo l n - daysTo l f ∧ c.2 = false)
  | fin (f t : Nat) (hw : x.waived = false) (hf : o.from_ = f) (ht : o.to = (t + 1 : Nat)) (hft : f ≤ t) (htn : t < n) (hd : c.1 ≤ daysTo l (t + 1) - daysTo l f) (hp : plainC k x → c.1 = daysTo l (t + 1) - daysTo l f)
      (he : (l.getD t default = -1 ∧ o.status = (if x.kind = 1 then 4 else if x.kind = 2 then 3 else 5) ∧ (x.kind = 1 → 0 ≤ o.got ∧ o.got < x.need) ∧ (x.kind ≠ 1 → o.got = 0) ∧ c.1 = x.after + x.grace) ∨
        (l.getD t default = x.act ∧ o.status = (if x.kind = 2 then 4 else 3) ∧ (x.kind = 1 → o.got = x.need) ∧ (x.kind ≠ 1 → o.got = 0) ∧ c.1 < x.after + x.grace))
structure ClOk (k : K) (x : Cl) : Prop where
  after : 1 ≤ x.after
  grace : 0 ≤ x.grace
  graceK : x.kind ≠ 1 → x.grace = 0
  need : 1 ≤ x.need
  act : 0 ≤ x.act
  kind : x.kind = 1 ∨ x.kind = 2 ∨ x.kind = 3 ∨ x.kind = 4
  pause : x.pause < 0 → x.pause = -1 ∧ x.resume = -1
end Go.Proofs.YtlhmgphgnedlkaaGreat
end
section
/- Contracts: package remedy: Damages. -/
namespace Go.Proofs.YtlhmgphgnedlkaaGreat
open Go.Eng
set_option maxRecDepth 10000
end Go.Proofs.YtlhmgphgnedlkaaGreat
end
section
/- Contracts: package quantity, Sum, Basket, Covers. -/
namespace Go.Proofs.YtlhmgphgnedlkaaGreat
open Go.Eng
set_option maxRecDepth 10000
end Go.Proofs.YtlhmgphgnedlkaaGreat
end
section
/- What converting computes, in rational numbers. -/
namespace Go.Proofs.YtlhmgphgnedlkaaGreat
open Go.Eng
end Go.Proofs.YtlhmgphgnedlkaaGreat
end
section
/- Baskets that cover baskets. -/
namespace Go.Proofs.YtlhmgphgnedlkaaGreat
open Go.Eng
end Go.Proofs.YtlhmgphgnedlkaaGreat
end
section
/- Sums and baskets, in rational numbers. -/
namespace Go.Proofs.YtlhmgphgnedlkaaGreat
open Go.Eng
def S (g : Nat → Rat) : Nat → Rat
  | 0 => 0
  | n + 1 => S g n + g n
end Go.Proofs.YtlhmgphgnedlkaaGreat
end
section
/- A ratio with the other sign. -/
namespace Go.Proofs.YtlhmgphgnedlkaaGreat
open Go.Eng
set_option maxRecDepth 10000
end Go.Proofs.YtlhmgphgnedlkaaGreat
end
section
/- Contracts: tally.Given, Received, SetOff. -/
namespace Go.Proofs.YtlhmgphgnedlkaaGreat
open Go.Eng
set_option maxRecDepth 10000
theorem given_ok (k : K) (hk : kW k) (l : List Int) (party : Int) : Does Tryz.prog 18 [kV k, intsV l, .c (.int .i64 party)] (sumsV k.units.length (sumsR k l party TMv.giver)) := by
  refine Does.mk (fun _ => false) TT_ok Tryz.func18 rfl (by kernel_rfl) Tryz.ntmps18 rfl rfl fun E hT hE hN hR => ?_
  have hm := mixO hE
  (repeat (first | refine XK.n ?_ | refine XK.a ?_ | refine XK.b ?_)); refine XK.region ?_; refine XL.g ?_
  refine XL.callKA hE rfl rfl rfl rfl trivial rfl rfl (sumsT_ok k hk l party 48 TMv.giver given1_ok) ?_
  refine XL.g ?_; refine XL.fin ?_; (repeat (first | refine XK.n ?_ | refine XK.a ?_ | refine XK.b ?_))
  (repeat (first | refine XK.n ?_ | refine XK.a ?_ | refine XK.b ?_))
  (first | refine XK.outL rfl rfl rfl ?_ | refine XK.outLN rfl rfl rfl ?_)
  exact AvIs.refl _
theorem received_ok (k : K) (hk : kW k) (l : List Int) (party : Int) : Does Tryz.prog 19 [kV k, intsV l, .c (.int .i64 party)] (sumsV k.units.length (sumsR k l party TMv.recv)) := by
  refine Does.mk (fun _ => false) TT_ok Tryz.func19 rfl (by kernel_rfl) Tryz.ntmps19 rfl rfl fun E hT hE hN hR => ?_
  have hm := mixO hE
  (repeat (first | refine XK.n ?_ | refine XK.a ?_ | refine XK.b ?_)); refine XK.region ?_; refine XL.g ?_
  refine XL.callKA hE rfl rfl rfl rfl trivial rfl rfl (sumsT_ok k hk l party 49 TMv.recv received1_ok) ?_
  refine XL.g ?_; refine XL.fin ?_; (repeat (first | refine XK.n ?_ | refine XK.a ?_ | refine XK.b ?_))
  (repeat (first | refine XK.n ?_ | refine XK.a ?_ | refine XK.b ?_))
  (first | refine XK.outL rfl rfl rfl ?_ | refine XK.outLN rfl rfl rfl ?_)
  exact AvIs.refl _
end Go.Proofs.YtlhmgphgnedlkaaGreat
end
section
/- The law TraceEnds: the walk. -/
namespace Go.Proofs.YtlhmgphgnedlkaaGreat
open Go.Eng
set_option maxRecDepth 10000
end Go.Proofs.YtlhmgphgnedlkaaGreat
end
section
/- The law TraceDays: the walk. -/
namespace Go.Proofs.YtlhmgphgnedlkaaGreat
open Go.Eng
set_option maxRecDepth 10000
end Go.Proofs.YtlhmgphgnedlkaaGreat
end
section
/- The law TraceHolders: the walk. -/
namespace Go.Proofs.YtlhmgphgnedlkaaGreat
open Go.Eng
set_option maxRecDepth 10000
theorem act_kind {k : K} {a : Act} (h : actB k a = true) : a.kind = 1 ∨ a.kind = 2 ∨ a.kind = 3 := by
  unfold actB at h
  split at h
  · simp only [Bool.and_eq_true, beq_iff_eq] at h; omega
  · split at h
    · exact .inl (by assumption)
    · split at h
      · omega
      · cases h
theorem holdTo_tick {k : K} {l : List Int} {r : Int} {i : Nat} (h : l.getD i default = -1) : holdTo k l r (i + 1) = holdTo k l r i := by
  rw [holdTo, if_pos (.inl h)]
theorem holdTo_act {k : K} {l : List Int} {r : Int} {i : Nat} (h : l.getD i default ≠ -1) :
    (holdTo k l r (i + 1)).1 = (if (acAt k (l.getD i default).toNat).kind ≠ 1 ∧ (acAt k (l.getD i default).toNat).give = r ∧ (holdTo k l r i).2 (l.getD i default).toNat = false then (acAt k (l.getD i default).toNat).to else (holdTo k l r i).1) ∧
    ∀ j, (holdTo k l r (i + 1)).2 j = if j = (l.getD i default).toNat then true else (holdTo k l r i).2 j := by
  rw [holdTo]
  by_cases h1 : (holdTo k l r i).2 (l.getD i default).toNat = true
  · rw [if_pos (.inr h1)]
    refine ⟨by rw [if_neg (fun h2 => by rw [h1] at h2; exact absurd h2.2.2 (by simp))], fun j => ?_⟩
    split
    · rename_i hj; rw [hj]; exact h1
    · rfl
  · rw [if_neg (by rintro (h' | h'); exact h h'; exact h1 h')]
    have h1 : (holdTo k l r i).2 (l.getD i default).toNat = false := by simpa using h1
    refine ⟨?_, fun _ => rfl⟩
    simp only [h1, and_true]
end Go.Proofs.YtlhmgphgnedlkaaGreat
end
section
/- The steps of a clause's outcome; the holders of a reading: plain laws. -/
namespace Go.Proofs.YtlhmgphgnedlkaaGreat
open Go.Eng
set_option maxRecDepth 10000
def NovB (k : K) (role b : Int) : Prop := ∃ s, s < k.acts.length ∧ (acAt k s).kind = 3 ∧ (acAt k s).give = role ∧ (acAt k s).to = b
structure Mid (k : K) (x : Cl) (n : Nat) (o o' : Oc) : Prop where
  still : runsB o = false → o' = o
  from_ : o'.from_ = o.from_
  to : o'.to = o.to ∨ o'.to = (n + 1 : Nat)
  got : o.got ≤ o'.got
  late : o.status = 2 → o'.status ≠ 1
  bearer : o'.bearer = o.bearer ∨ (x.kind ≠ 4 ∧ NovB k x.role o'.bearer)
structure StepO (k : K) (x : Cl) (n : Nat) (h : Int) (o o' : Oc) : Prop where
  ended : 0 ≤ o.to → o' = o
  from_ : 0 ≤ o.from_ → o'.from_ = o.from_
  start : o.from_ < 0 → o' = o ∨ o'.from_ = (n + 1 : Nat)
  to : o.to < 0 → o'.to < 0 ∨ o'.to = (n + 1 : Nat)
  got : o.got ≤ o'.got
  late : 0 ≤ o.from_ → o.status = 2 → o'.status ≠ 1
  bearer : 0 ≤ o.from_ → o'.bearer = o.bearer ∨ (x.kind ≠ 4 ∧ NovB k x.role o'.bearer)
  bearerS : o.from_ < 0 → 0 ≤ o'.from_ → x.kind ≠ 4 → o'.bearer = h
  bearer4 : x.kind = 4 → o'.bearer = o.bearer
structure Later (n m : Nat) (a b : Oc) : Prop where
  ended : 0 ≤ a.to → b = a
  from_ : 0 ≤ a.from_ → b.from_ = a.from_
  start : a.from_ < 0 → b.from_ < 0 ∨ n < b.from_
  to : a.to < 0 → b.to < 0 ∨ n < b.to
  got : a.got ≤ b.got
  late : 0 ≤ a.from_ → a.status = 2 → b.status ≠ 1
theorem hold_link {k : K} (hk : KFacts k) {l : List Int} (hl : stepsOk k l) : ∀ n, n ≤ l.length → l.length < 900000 → (∀ i : Nat, i < k.holders.length → (followR k l n).hold i = (holdTo k l i n).1) ∧ ∀ i : Nat, ∀ s, (followR k l n).hap s = (holdTo k l i n).2 s
  | 0, _, _ => by
    have h0 := begin0_ok hk
    have h1 := startR_kept (k := k) (r := begin0 k) (kn := knownTo k k.clauses.length) (by simp [begin0]) h0.wait
    refine ⟨fun i hi => ?_, fun i s => ?_⟩
    · show (beginR k).hold i = _
      rw [beginR, h1.hold]
      rfl
    · show (beginR k).hap s = _
      rw [beginR, h1.hap]
      rfl
  | n + 1, hn, h9 => by
    obtain ⟨ih1, ih2⟩ := hold_link hk hl n (by omega) h9
    obtain ⟨hok, hst⟩ := followR_ok hk l n (by omega)
    have h0 := hok.steps
    have hs := hl n (by omega)
    have e : followR k l (n + 1) = stepR k (followR k l n) (l.getD n default) := rfl
    by_cases h3 : l.getD n default = -1
    · have hw : WaitOk k (tickTo k { followR k l n with steps := (followR k l n).steps + 1 } (freeB k (followR k l n).day) k.clauses.length) := hok.wait
      have h1 := startR_kept (kn := endedT k { followR k l n with steps := (followR k l n).steps + 1 } (freeB k (followR k l n).day) k.clauses.length) (by simp only [tickTo]; omega) hw
      rw [e, stepR, if_pos h3]
      refine ⟨fun i hi => ?_, fun i s => ?_⟩
      · rw [holdTo_tick h3, h1.hold]; exact ih1 i hi
      · rw [holdTo_tick h3, h1.hap]; exact ih2 i s
    · have hs0 := hs.resolve_left h3
      have hsm := actR_same k { followR k l n with steps := (followR k l n).steps + 1 } (l.getD n default).toNat
      have hw : WaitOk k (actR k { followR k l n with steps := (followR k l n).steps + 1 } (l.getD n default).toNat) := by unfold WaitOk; rw [hsm.1]; exact hok.wait
      have h1 := startR_kept (kn := endedA k { followR k l n with steps := (followR k l n).steps + 1 } (l.getD n default).toNat k.clauses.length) (by rw [hsm.2.1]; simp only; omega) hw
      rw [e, stepR, if_neg h3]
      have hact := hk.act (l.getD n default).toNat (by omega)
      have hk3 := act_kind hact
      refine ⟨fun i hi => ?_, fun i s => ?_⟩
      · obtain ⟨hq1, -⟩ := holdTo_act (k := k) (r := i) h3
        rw [h1.hold, hq1, ← ih2 i, ← ih1 i hi]
        have hg : (acAt k (l.getD n default).toNat).kind ≠ 1 → 0 ≤ (acAt k (l.getD n default).toNat).give := by
          intro h
          generalize acAt k (l.getD n default).toNat = a at hact h
          unfold actB at hact
          split at hact
          · simp only [Bool.and_eq_true, beq_iff_eq] at hact; omega
          · try rw [if_neg h] at hact
            split at hact
            · simp only [Bool.and_eq_true, movB, decide_eq_true_eq] at hact; omega
            · cases hact
        unfold actR takesB
        simp only
        generalize acAt k (l.getD n default).toNat = a at *
        have hr : (followR k l n).hap (l.getD n default).toNat = true ∨ (followR k l n).hap (l.getD n default).toNat = false := by cases (followR k l n).hap (l.getD n default).toNat <;> simp
        by_cases k1 : a.kind = 1
        · rw [if_pos (.inr k1), if_neg (fun h => h.1 k1)]
          rfl
        · rcases hr with hr | hr
          · rw [if_pos (.inl (by rw [hr]; simp [k1])), if_neg (fun h => by rw [hr] at h; exact absurd h.2.2 (by simp))]
            rfl
          · rw [if_neg (by rw [hr]; simp [k1])]
            have := hg k1
            simp only [novTo, hr, and_true]
            by_cases h5 : i = a.give.toNat
            · rw [if_pos h5, if_pos ⟨k1, by omega⟩]
            · rw [if_neg h5, if_neg (fun h => h5 (by omega))]
              rfl
      · obtain ⟨-, hq2⟩ := holdTo_act (k := k) (r := i) h3
        rw [h1.hap, hq2, ← ih2 i]
        unfold actR
        simp only
        split <;> rfl
end Go.Proofs.YtlhmgphgnedlkaaGreat
end
section
/- What was given and received does not depend on the clauses. -/
namespace Go.Proofs.YtlhmgphgnedlkaaGreat
open Go.Eng
set_option maxRecDepth 10000
theorem mvAt_hold {k : K} {l : List Int} (hk : kW k) (hc : checkR k l = 0) {i : Nat} (hi : i < l.length) : mvAt k l i = if l.getD i default = -1 ∨ (acAt k (l.getD i default).toNat).unit = -1 then none
  else some ⟨(acAt k (l.getD i default).toNat).unit, (acAt k (l.getD i default).toNat).lot, (holdTo k l (acAt k (l.getD i default).toNat).role.toNat i).1,
    if (acAt k (l.getD i default).toNat).to ≠ -1 then (holdTo k l (acAt k (l.getD i default).toNat).to.toNat i).1 else -1⟩ := by
  obtain ⟨h2, h3, h4, _⟩ := checkR_ok hk hc
  cases hm : mvAt k l i with
  | none =>
    unfold mvAt at hm
    split at hm
    · rename_i h1
      rw [if_pos h1]
    · cases hm
  | some m =>
    obtain ⟨ac, a1, a2, a3, a4, a5, a6, a7, a8, a9, a10⟩ := mv_facts h2.facts h3 hi hm
    have hlink := (hold_link h2.facts h3 i (by omega) (by omega)).1
    have hu : ¬ ac.unit = -1 := by omega
    rw [if_neg (by rw [← a2]; omega), ← a2]
    obtain ⟨u, v, g, r⟩ := m
    simp only at a5 a6 a9 a10
    have e1 := hlink ac.role.toNat (by omega)
    rw [a5, a6, a9, a10]
    rcases a8 with a8 | a8
    · rw [if_neg (by rw [a8]; simp), if_neg (by rw [a8]; simp), e1]
    · have e2 := hlink ac.to.toNat (by omega)
      rw [if_pos (by omega), if_pos (by omega), e1, e2]
theorem tlT_congr {ch : TMv → Int} {party : Int} {mv mv' : Nat → Option TMv} : ∀ {n : Nat}, (∀ i, i < n → mv i = mv' i) → tlT ch party mv n = tlT ch party mv' n
  | 0, _ => rfl
  | n + 1, h => by
    simp only [tlT, tlT_congr (n := n) fun i hi => h i (by omega), h n (by omega)]
theorem frame_step (k : K) (cs : List Cl) (l : List Int) : ∀ n, stepErr { k with clauses := cs } l n = stepErr k l n
  | 0 => rfl
  | n + 1 => by
    simp only [stepErr, frame_step k cs l n]
theorem frame_check {k : K} {cs : List Cl} {l : List Int} (h1 : (kValid k).1 = 0) (h2 : (kValid { k with clauses := cs }).1 = 0) : checkR { k with clauses := cs } l = checkR k l := by
  have n1 : ¬ (kValid k).1 ≠ 0 := by simpa using h1
  have n2 : ¬ (kValid { k with clauses := cs }).1 ≠ 0 := by simpa using h2
  unfold checkR
  rw [if_neg n1, if_neg n2, frame_step]
theorem holdTo_frame (k : K) (cs : List Cl) (l : List Int) (r : Int) : ∀ n, holdTo { k with clauses := cs } l r n = holdTo k l r n
  | 0 => rfl
  | n + 1 => by
    simp only [holdTo, holdTo_frame k cs l r n]
    rfl
theorem sumsR_frame {k : K} {cs : List Cl} (hk : kW k) (hk' : kW { k with clauses := cs }) (h1 : (kValid k).1 = 0) (h2 : (kValid { k with clauses := cs }).1 = 0) (l : List Int) (party : Int) (ch : TMv → Int) : sumsR { k with clauses := cs } l party ch = sumsR k l party ch := by
  have hcc := frame_check (l := l) h1 h2
  unfold sumsR
  rw [hcc]
  by_cases hc : checkR k l = 0
  · have e : tlT ch party (mvAt { k with clauses := cs } l) l.length = tlT ch party (mvAt k l) l.length := tlT_congr fun i hi => by
      rw [mvAt_hold hk hc hi, mvAt_hold hk' (hcc.trans hc) hi]
      have ha : acAt { k with clauses := cs } = acAt k := rfl
      simp only [holdTo_frame, ha]
    rw [e]
  · rw [if_pos hc, if_pos hc]
end Go.Proofs.YtlhmgphgnedlkaaGreat
end
section
/- The law TopMergeKeeps: the walk. -/
namespace Go.Proofs.YtlhmgphgnedlkaaGreat
open Go.Eng
set_option maxRecDepth 10000
noncomputable def cPts : Codec Tryz.prog 28 (List Pt) := Codec.slice cPt ty28_k (by decide) (by kernel_rfl)
theorem same04_ok (n : Nat) (a : Nat → Q) : Does Tryz.prog 20 [ratV n a, ratV n a] (.c (.bool true)) := by
  refine Does.mk (fun _ => false) TT_ok Tryz.func20 rfl (by kernel_rfl) Tryz.ntmps20 rfl rfl fun E hT hE hN hR => ?_
  have hm := mixO hE
  refine XK.fact (Sat.rs_len (j := 0) rfl) fun hlen => ?_
  have hm' := hlen.1
  clear hlen
  (repeat (first | refine XK.n ?_ | refine XK.a ?_ | refine XK.b ?_)); refine XK.cond rfl (fun hc => ?_) (fun hc => ?_) <;> (try simp at hc)
  (repeat (first | refine XK.n ?_ | refine XK.a ?_ | refine XK.b ?_))
  refine XK.loop (ι := Nat) (fun i => ST.of [(0, ratV n a), (1, ratV n a), (5, .c (.int .i64 i))] [] 1000 26 (fun _ => false))
    (fun i => i ≤ n) (fun i => n - i) 0 (Nat.zero_le _)
    (Weak.of hN rfl rfl rfl ⟨AvIs.refl _, AvIs.refl _, rfl⟩ trivial) fun i hi => ?_
  (repeat (first | refine XK.n ?_ | refine XK.a ?_ | refine XK.b ?_)); refine XK.cond rfl (fun hlt => ?_) (fun hlt => ?_) <;> (try simp at hlt)
  · (repeat (first | refine XK.n ?_ | refine XK.a ?_ | refine XK.b ?_)); refine XK.cond rfl (fun hx => ?_) (fun hx => ?_)
    · exact absurd hx (by simp)
    · (repeat (first | refine XK.n ?_ | refine XK.a ?_ | refine XK.b ?_))
      refine XK.inv ⟨i + 1, hlt, Weak.of hN rfl rfl rfl ⟨AvIs.refl _, AvIs.refl _, rfl⟩ trivial, by omega⟩
  · (repeat (first | refine XK.n ?_ | refine XK.a ?_ | refine XK.b ?_))
    (first | refine XK.out rfl rfl rfl ?_ | refine XK.outN rfl rfl rfl ?_)
    rfl
set_option maxHeartbeats 4000000 in
theorem lawMG (k : K) (hk : kW k) (left right : List Pt) (hlw : ∀ p ∈ left, ptW p) (hrw : ∀ p ∈ right, ptW p) (l : List Int) :
    Does Tryz.prog 3 [kV k, ptsV left, ptsV right, intsV l] (.c (.bool true)) := by
  refine Does.mk (fun _ => false) TT_ok Tryz.func3 rfl (by kernel_rfl) Tryz.ntmps3 rfl rfl fun E hT hE hN hR => ?_
  have hm := mixO hE
  (repeat (first | refine XK.n ?_ | refine XK.a ?_ | refine XK.b ?_))
  (repeat (first | refine XK.n ?_ | refine XK.a ?_ | refine XK.b ?_)); refine XK.region ?_; refine XL.g ?_
  refine XL.callLA hE rfl rfl rfl rfl trivial rfl (merged_ok) rfl ?_
  refine XL.g ?_; refine XL.fin ?_; (repeat (first | refine XK.n ?_ | refine XK.a ?_ | refine XK.b ?_))
  (repeat (first | refine XK.n ?_ | refine XK.a ?_ | refine XK.b ?_))
  (repeat (first | refine XK.n ?_ | refine XK.a ?_ | refine XK.b ?_)); refine XK.region ?_; refine XL.g ?_
  refine XL.callLA hE rfl rfl rfl rfl trivial rfl (wsmall_ok k left right l) rfl ?_
  refine XL.g ?_; refine XL.fin ?_; (repeat (first | refine XK.n ?_ | refine XK.a ?_ | refine XK.b ?_))
  (repeat (first | refine XK.n ?_ | refine XK.a ?_ | refine XK.b ?_)); refine XK.cond rfl (fun h1 => ?_) (fun h1 => ?_)
  · (repeat (first | refine XK.n ?_ | refine XK.a ?_ | refine XK.b ?_))
    (first | refine XK.out rfl rfl rfl ?_ | refine XK.outN rfl rfl rfl ?_)
    rfl
  have h1 : smallW k left right l = true := by simpa using h1
  simp only [smallW, Bool.and_eq_true, decide_eq_true_eq, List.all_eq_true] at h1
  obtain ⟨⟨hsl, hsr⟩, ⟨⟨hsk, n6⟩, m6⟩, l40⟩ := h1
  have hl : ptsOk left := fun p hp => by
    have := small24_facts (hsl p hp)
    exact ⟨hlw p hp, by omega, by omega⟩
  have hr : ptsOk right := fun p hp => by
    have := small24_facts (hsr p hp)
    exact ⟨hrw p hp, by omega, by omega⟩
  have c1 := merge_ok k hk left right hl hr
  have c2 := vrun_ok k hk l
  have hml := fun h => merge_law (k := k) hl hr h
  have hvl := fun h => vrun_last hk (l := l) h
  generalize mergeR k left right = R at *
  generalize vrunR k l = V at *
  obtain ⟨M, pr, e⟩ := R
  obtain ⟨S, f⟩ := V
  dsimp only at *
  (repeat (first | refine XK.n ?_ | refine XK.a ?_ | refine XK.b ?_))
  (repeat (first | refine XK.n ?_ | refine XK.a ?_ | refine XK.b ?_)); refine XK.region ?_; refine XL.g ?_
  refine XL.callKA hE rfl rfl rfl rfl trivial rfl rfl (c1) ?_
  refine XL.g ?_; refine XL.fin ?_; (repeat (first | refine XK.n ?_ | refine XK.a ?_ | refine XK.b ?_))
  (repeat (first | refine XK.n ?_ | refine XK.a ?_ | refine XK.b ?_)); refine XK.region ?_; refine XL.g ?_
  refine XL.callKA hE rfl rfl rfl rfl trivial rfl rfl (c2) ?_
  refine XL.g ?_; refine XL.fin ?_; (repeat (first | refine XK.n ?_ | refine XK.a ?_ | refine XK.b ?_))
  (repeat (first | refine XK.n ?_ | refine XK.a ?_ | refine XK.b ?_)); refine XK.cond rfl (fun h2 => ?_) (fun h2 => ?_)
  · (repeat (first | refine XK.n ?_ | refine XK.a ?_ | refine XK.b ?_))
    (first | refine XK.out rfl rfl rfl ?_ | refine XK.outN rfl rfl rfl ?_)
    rfl
  simp only [Bool.or_eq_false_iff, bne_eq_false_iff_eq] at h2
  obtain ⟨⟨rfl, rfl⟩, h2⟩ := h2
  obtain ⟨hv, hM60, hM, ho⟩ := hml rfl
  obtain ⟨hS1, hS2⟩ := hvl rfl
  clear hml hvl
  have fs : S.getD (l.length : Int).toNat default = S.getD l.length default := rfl
  have hsl : l.length < S.length := by omega
  (repeat (first | refine XK.n ?_ | refine XK.a ?_ | refine XK.b ?_))
  rw [fs]
  generalize S.getD l.length default = s0 at *
  have hFk := (show kOk k from ⟨hk, hv⟩).facts
  have hpar := hFk.parties
  refine XK.loop (ι := Nat) (fun i => ST.of [(3, intsV l), (4, .ptr 4 0), (9, .c (.bool true)), (10, ptsV M), (15, .ptr 1959 0), (16, .ptr 2284 0), (17, .c (.int .i64 i))]
    [(4, .cells 27 (kC k)), (1959, .cells 27 (kC (allTo k M i).1)), (2284, .cells 41 (stC (stMig k M s0 i)))] 4000 324 (fun _ => false))
    (fun i => i ≤ M.length) (fun i => M.length - i) 0 (Nat.zero_le _) (Weak.of hN rfl rfl rfl frI frI) fun i hi => ?_
  (repeat (first | refine XK.n ?_ | refine XK.a ?_ | refine XK.b ?_)); refine XK.cond rfl (fun hlt => ?_) (fun hlt => ?_) <;> (try simp at hlt)
  · have fx : M.getD (i : Int).toNat default = M.getD i default := rfl
    obtain ⟨q1, q2, q3, q4, q5, q6, q7, q8⟩ := step_law hk hv hM ho hS2 hlt
    have w0 := allTo_W hk (fun p hp => (hM p hp).1) hi
    have w1 := allTo_W hk (fun p hp => (hM p hp).1) (show i + 1 ≤ M.length by omega)
    obtain ⟨p1, p2, p3⟩ := hM _ (getD_memW hlt)
    have d1 := apply_ok (allTo k M i).1 w0 (M.getD i default) p1 p2 p3
    have d2 := migrate_ok (allTo k M i).1 w0 (M.getD i default) p1 p2 p3 (stMig k M s0 i)
    have d3 := validS_ok (allTo k M (i + 1)).1 w1 (stMig k M s0 (i + 1))
    have d4 := fun q => names_ok (M.getD i default) q p2
    rw [q1] at d1
    rw [q2] at d2
    rw [q3] at d3
    clear q1 q2 q3 w0 w1 p1 p2 p3
    generalize hnc : (allTo k M (i + 1)).1 = c' at *
    generalize hns : stMig k M s0 (i + 1) = t at *
    generalize (allTo k M i).1 = c at *
    generalize stMig k M s0 i = s at *
    generalize M.getD i default = p at *
    obtain ⟨td, th, tu, tm⟩ := t
    simp only [St.mk.injEq] at q4
    obtain ⟨rfl, rfl, rfl, -⟩ := q4
    dsimp only at d2 d3 q5 q8
    have d5 := ints18_ok s.holders s.holders (by omega)
    rw [(listB_iff intB_iff).2 rfl] at d5
    (repeat (first | refine XK.n ?_ | refine XK.a ?_ | refine XK.b ?_))
    (repeat (first | refine XK.n ?_ | refine XK.a ?_ | refine XK.b ?_)); refine XK.drawn hm ?_; refine XD.goA hT rfl rfl rfl rfl ?_
    rw [fx]
    refine XD.callKA hE rfl rfl rfl rfl trivial rfl rfl (d1) ?_
    refine XD.goA hT rfl rfl rfl rfl ?_; refine XD.fin (by kernel_rfl) ?_; (repeat (first | refine XK.n ?_ | refine XK.a ?_ | refine XK.b ?_))
    (repeat (first | refine XK.n ?_ | refine XK.a ?_ | refine XK.b ?_)); refine XK.drawn hm ?_; refine XD.goA hT rfl rfl rfl rfl ?_
    rw [fx]
    refine XD.callKA hE rfl rfl rfl rfl trivial rfl rfl (d2) ?_
    refine XD.goA hT rfl rfl rfl rfl ?_; refine XD.fin (by kernel_rfl) ?_; (repeat (first | refine XK.n ?_ | refine XK.a ?_ | refine XK.b ?_))
    (repeat (first | refine XK.n ?_ | refine XK.a ?_ | refine XK.b ?_))
    (repeat (first | refine XK.n ?_ | refine XK.a ?_ | refine XK.b ?_)); refine XK.region ?_; refine XL.g ?_
    refine XL.callGA hE rfl rfl rfl rfl rfl rfl rfl rfl (d3) rfl ?_
    refine XL.g ?_
    refine XL.callGA hE rfl rfl rfl rfl rfl rfl rfl rfl (d5) rfl ?_
    refine XL.g ?_; refine XL.fin ?_; (repeat (first | refine XK.n ?_ | refine XK.a ?_ | refine XK.b ?_))
    (repeat (first | refine XK.n ?_ | refine XK.a ?_ | refine XK.b ?_)); refine XK.cond rfl (fun h5 => ?_) (fun h5 => ?_)
    · exact absurd h5 (by simp)
    clear h5
    (repeat (first | refine XK.n ?_ | refine XK.a ?_ | refine XK.b ?_))
    refine XK.loop (ι := Nat) (fun j => ST.of [(3, intsV l), (4, .ptr 4 0), (9, .c (.bool true)), (10, ptsV M), (15, .ptr 1959 0), (16, .ptr 2284 0), (17, .c (.int .i64 i)), (18, .ptr 4342 0), (20, .ptr 4668 0), (22, .c (.int .i64 j))] [(4, .cells 27 (kC k)), (1959, .cells 27 (kC c)), (2284, .cells 41 (stC s)), (4342, .cells 27 (kC c')), (4668, .cells 41 (stC ⟨s.day, s.holders, s.used, tm⟩))] 6000 324 (fun _ => false))
      (fun j => j ≤ s.used.length) (fun j => s.used.length - j) 0 (Nat.zero_le _) (Weak.of hN rfl rfl rfl frI frI) fun j hj => ?_
    (repeat (first | refine XK.n ?_ | refine XK.a ?_ | refine XK.b ?_)); refine XK.cond rfl (fun hlj => ?_) (fun hlj => ?_) <;> (try simp at hlj)
    · have fu : s.used.getD (j : Int).toNat default = s.used.getD j default := rfl
      (repeat (first | refine XK.n ?_ | refine XK.a ?_ | refine XK.b ?_))
      rw [fu]
      (repeat (first | refine XK.n ?_ | refine XK.a ?_ | refine XK.b ?_)); refine XK.cond rfl (fun h6 => ?_) (fun h6 => ?_)
      · exact absurd h6 (by cases s.used.getD j default <;> simp)
      clear h6
      (repeat (first | refine XK.n ?_ | refine XK.a ?_ | refine XK.b ?_))
      exact XK.inv ⟨j + 1, hlj, (Weak.of hN rfl rfl rfl frI frI), by omega⟩
    clear hlj hj
    (repeat (first | refine XK.n ?_ | refine XK.a ?_ | refine XK.b ?_))
    refine XK.loop (ι := Nat) (fun q => ST.of [(3, intsV l), (4, .ptr 4 0), (9, .c (.bool true)), (10, ptsV M), (15, .ptr 1959 0), (16, .ptr 2284 0), (17, .c (.int .i64 i)), (18, .ptr 4342 0), (20, .ptr 4668 0), (23, .c (.int .i64 q))] [(4, .cells 27 (kC k)), (1959, .cells 27 (kC c)), (2284, .cells 41 (stC s)), (4342, .cells 27 (kC c')), (4668, .cells 41 (stC ⟨s.day, s.holders, s.used, tm⟩))] 8000 324 (fun _ => false))
      (fun q => q ≤ s.marks.length) (fun q => s.marks.length - q) 0 (Nat.zero_le _) (Weak.of hN rfl rfl rfl frI frI) fun q hq => ?_
    (repeat (first | refine XK.n ?_ | refine XK.a ?_ | refine XK.b ?_)); refine XK.cond rfl (fun hlq => ?_) (fun hlq => ?_) <;> (try simp at hlq)
    · have fa : s.marks.getD (q : Int).toNat default = s.marks.getD q default := rfl
      have fb : tm.getD (q : Int).toNat default = tm.getD q default := rfl
      obtain ⟨g1, g2, g3⟩ := q8 q hlq
      clear q8
      have d4 := d4 q
      generalize s.marks.getD q default = a at *
      generalize tm.getD q default = b at *
      have e1 := ended_ok a
      have e2 := runsR_ok a
      have e3 := runsR_ok b
      (repeat (first | refine XK.n ?_ | refine XK.a ?_ | refine XK.b ?_))
      rw [fa, fb]
      (repeat (first | refine XK.n ?_ | refine XK.a ?_ | refine XK.b ?_)); refine XK.region ?_; refine XL.g ?_
      refine XL.callLA hE rfl rfl rfl rfl trivial rfl (e1) rfl ?_
      refine XL.g ?_; refine XL.fin ?_; (repeat (first | refine XK.n ?_ | refine XK.a ?_ | refine XK.b ?_))
      (repeat (first | refine XK.n ?_ | refine XK.a ?_ | refine XK.b ?_)); refine XK.cond rfl (fun h6 => ?_) (fun h6 => ?_)
      · exfalso
        have h6 : (endedM a && !eqMk a b || b.status == 4 && a.status != 4) = true := h6
        simp only [Bool.or_eq_true, Bool.and_eq_true, Bool.not_eq_true', beq_iff_eq, bne_iff_ne] at h6
        rcases h6 with ⟨z1, z2⟩ | ⟨z1, z2⟩
        · rw [g1 z1, eqMk_iff.2 rfl] at z2
          cases z2
        · exact z2 (g2 z1)
      clear h6
      (repeat (first | refine XK.n ?_ | refine XK.a ?_ | refine XK.b ?_))
      (repeat (first | refine XK.n ?_ | refine XK.a ?_ | refine XK.b ?_)); refine XK.region ?_; refine XL.g ?_
      rw [fx]
      refine XL.callGA hE rfl rfl rfl rfl rfl rfl rfl rfl (d4) rfl ?_
      refine XL.g ?_; refine XL.fin ?_; (repeat (first | refine XK.n ?_ | refine XK.a ?_ | refine XK.b ?_))
      (repeat (first | refine XK.n ?_ | refine XK.a ?_ | refine XK.b ?_))
      (repeat (first | refine XK.n ?_ | refine XK.a ?_ | refine XK.b ?_)); refine XK.region ?_; refine XL.g ?_
      refine XL.callLA hE rfl rfl rfl rfl trivial rfl (e2) rfl ?_
      refine XL.g ?_
      refine XL.callGA hE rfl rfl rfl rfl rfl rfl rfl rfl (e3) rfl ?_
      refine XL.g ?_
      refine XL.callGA hE rfl rfl rfl rfl rfl rfl rfl rfl (e3) rfl ?_
      refine XL.g ?_
      rw [fx]
      refine XL.callGA hE rfl rfl rfl rfl rfl rfl rfl rfl (d4) rfl ?_
      refine XL.g ?_; refine XL.fin ?_; (repeat (first | refine XK.n ?_ | refine XK.a ?_ | refine XK.b ?_))
      (repeat (first | refine XK.n ?_ | refine XK.a ?_ | refine XK.b ?_)); refine XK.cond rfl (fun h7 => ?_) (fun h7 => ?_)
      · exfalso
        simp only [Bool.or_eq_true, Bool.and_eq_true, Bool.not_eq_true', bne_iff_ne, beq_eq_false_iff_ne, Bool.and_eq_false_iff] at h7
        obtain ⟨⟨z1, z2⟩, z3⟩ := h7
        obtain ⟨x1, x2, x3, x4⟩ := g3 z1 (fun ⟨y1, y2⟩ => by
          rcases z2 with z2 | z2
          · exact z2 y1
          · rw [y2] at z2; cases z2)
        rcases z3 with ((z3 | z3) | ⟨z3, z4⟩) | ⟨z3, z4⟩
        · exact z3 x1.symm
        · exact z3 x2.symm
        · exact z4 (x3 z3).symm
        · rw [x4 z3] at z4; cases z4
      clear h7
      (repeat (first | refine XK.n ?_ | refine XK.a ?_ | refine XK.b ?_))
      exact XK.inv ⟨q + 1, hlq, (Weak.of hN rfl rfl rfl frI frI), by omega⟩
    (repeat (first | refine XK.n ?_ | refine XK.a ?_ | refine XK.b ?_))
    refine XK.inv ⟨i + 1, hlt, ?_, by omega⟩
    rw [hnc, hns]
    exact (Weak.of hN rfl rfl rfl frI frI)
  have hie : i = M.length := by omega
  subst hie
  clear hlt hi
  obtain ⟨⟨_, av, _, af⟩, _⟩ := allTo_all hv (Nat.le_refl _) ho
  have wE := allTo_W hk (fun p hp => (hM p hp).1) (Nat.le_refl M.length)
  have ca := appAll_ok k hk M hM
  have eA : appAllR k M = allTo k M M.length := by unfold appAllR; rw [if_neg (by simpa using hv), if_neg (by omega)]
  rw [eA] at ca
  have hFe := (show kOk (allTo k M M.length).1 from ⟨wE, av⟩).facts
  have hKB : KB (allTo k M M.length).1 := by
    have b1 := hFe.nh
    have b2 := hFe.na
    have b3 := hFe.nc
    have b4 := units_len av
    have b5 := off_len hFe
    exact ⟨by omega, by omega, by omega, by omega, by omega, cls_start hFe⟩
  have c24 := same24_ok (allTo k M M.length).1 (allTo k M M.length).1 hKB
  rw [(sameR_iff _ _).2 rfl] at c24
  have hsum := fun party ch => sumsR_frame (cs := (allTo k M M.length).1.clauses) hk (by rw [← af]; exact wE) hv (by rw [← af]; exact av) l party ch
  rw [← af] at hsum
  have hun : (allTo k M M.length).1.units.length = k.units.length := by rw [af]
  have g1 := fun p => given_ok k hk l p
  have g2 := fun p => received_ok k hk l p
  have g3 := fun p => given_ok (allTo k M M.length).1 wE l p
  have g4 := fun p => received_ok (allTo k M M.length).1 wE l p
  simp only [hsum, hun] at g3 g4
  clear hsum av af hFe hKB hun eA
  generalize allTo k M M.length = x at *
  obtain ⟨c, e⟩ := x
  dsimp only at *
  subst ho
  (repeat (first | refine XK.n ?_ | refine XK.a ?_ | refine XK.b ?_))
  (repeat (first | refine XK.n ?_ | refine XK.a ?_ | refine XK.b ?_)); refine XK.region ?_; refine XL.g ?_
  refine XL.callKA hE rfl rfl rfl rfl trivial rfl rfl (ca) ?_
  refine XL.g ?_; refine XL.fin ?_; (repeat (first | refine XK.n ?_ | refine XK.a ?_ | refine XK.b ?_))
  (repeat (first | refine XK.n ?_ | refine XK.a ?_ | refine XK.b ?_))
  (repeat (first | refine XK.n ?_ | refine XK.a ?_ | refine XK.b ?_)); refine XK.region ?_; refine XL.g ?_
  refine XL.callGA hE rfl rfl rfl rfl rfl rfl rfl rfl (c24) rfl ?_
  refine XL.g ?_; refine XL.fin ?_; (repeat (first | refine XK.n ?_ | refine XK.a ?_ | refine XK.b ?_))
  (repeat (first | refine XK.n ?_ | refine XK.a ?_ | refine XK.b ?_)); refine XK.cond rfl (fun h5 => ?_) (fun h5 => ?_)
  · exact absurd h5 (by simp)
  clear h5
  (repeat (first | refine XK.n ?_ | refine XK.a ?_ | refine XK.b ?_))
  refine XK.loop (ι := Nat) (fun i => ST.of [(3, intsV l), (4, .ptr 4 0), (9, .c (.bool true)), (15, .ptr 1959 0), (29, .c (.int .i64 i))]
    [(4, .cells 27 (kC k)), (1959, .cells 27 (kC c))] 10000 324 (fun _ => false))
    (fun i => (i : Int) ≤ k.parties) (fun i => k.parties.toNat - i) 0 (by omega) (Weak.of hN rfl rfl rfl frI frI) fun i hi => ?_
  (repeat (first | refine XK.n ?_ | refine XK.a ?_ | refine XK.b ?_)); refine XK.cond rfl (fun hlt => ?_) (fun hlt => ?_) <;> (try simp at hlt)
  · have g1 := g1 i
    have g2 := g2 i
    have g3 := g3 i
    have g4 := g4 i
    generalize sumsR k l i TMv.giver = a at *
    generalize sumsR k l i TMv.recv = b at *
    have s1 := same04_ok (if a.2 = 0 then k.units.length else 0) a.1
    have s2 := same04_ok (if b.2 = 0 then k.units.length else 0) b.1
    (repeat (first | refine XK.n ?_ | refine XK.a ?_ | refine XK.b ?_))
    (repeat (first | refine XK.n ?_ | refine XK.a ?_ | refine XK.b ?_)); refine XK.region ?_; refine XL.g ?_
    refine XL.callKA hE rfl rfl rfl rfl trivial rfl rfl (g1) ?_
    refine XL.g ?_; refine XL.fin ?_; (repeat (first | refine XK.n ?_ | refine XK.a ?_ | refine XK.b ?_))
    (repeat (first | refine XK.n ?_ | refine XK.a ?_ | refine XK.b ?_)); refine XK.region ?_; refine XL.g ?_
    refine XL.callKA hE rfl rfl rfl rfl trivial rfl rfl (g3) ?_
    refine XL.g ?_; refine XL.fin ?_; (repeat (first | refine XK.n ?_ | refine XK.a ?_ | refine XK.b ?_))
    (repeat (first | refine XK.n ?_ | refine XK.a ?_ | refine XK.b ?_)); refine XK.region ?_; refine XL.g ?_
    refine XL.callKA hE rfl rfl rfl rfl trivial rfl rfl (g2) ?_
    refine XL.g ?_; refine XL.fin ?_; (repeat (first | refine XK.n ?_ | refine XK.a ?_ | refine XK.b ?_))
    (repeat (first | refine XK.n ?_ | refine XK.a ?_ | refine XK.b ?_)); refine XK.region ?_; refine XL.g ?_
    refine XL.callKA hE rfl rfl rfl rfl trivial rfl rfl (g4) ?_
    refine XL.g ?_; refine XL.fin ?_; (repeat (first | refine XK.n ?_ | refine XK.a ?_ | refine XK.b ?_))
    (repeat (first | refine XK.n ?_ | refine XK.a ?_ | refine XK.b ?_))
    (repeat (first | refine XK.n ?_ | refine XK.a ?_ | refine XK.b ?_)); refine XK.region ?_; refine XL.g ?_
    refine XL.callGA hE rfl rfl rfl rfl rfl rfl rfl rfl (s1) rfl ?_
    refine XL.g ?_
    refine XL.callGA hE rfl rfl rfl rfl rfl rfl rfl rfl (s2) rfl ?_
    refine XL.g ?_; refine XL.fin ?_; (repeat (first | refine XK.n ?_ | refine XK.a ?_ | refine XK.b ?_))
    (repeat (first | refine XK.n ?_ | refine XK.a ?_ | refine XK.b ?_)); refine XK.cond rfl (fun h5 => ?_) (fun h5 => ?_)
    · exact absurd h5 (by simp)
    clear h5
    (repeat (first | refine XK.n ?_ | refine XK.a ?_ | refine XK.b ?_))
    exact XK.inv ⟨i + 1, by omega, (Weak.of hN rfl rfl rfl frI frI), by omega⟩
  · (repeat (first | refine XK.n ?_ | refine XK.a ?_ | refine XK.b ?_))
    (first | refine XK.out rfl rfl rfl ?_ | refine XK.outN rfl rfl rfl ?_)
    rfl
end Go.Proofs.YtlhmgphgnedlkaaGreat
end
