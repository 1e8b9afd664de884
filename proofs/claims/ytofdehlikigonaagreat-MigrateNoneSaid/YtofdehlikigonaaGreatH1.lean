import Derived.Test.YtofdehlikigonaaGreatQ3
import Derived.Test.YtofdehlikigonaaGreatS5
section
/- Contracts: package migrate: marks. -/
namespace Go.Proofs.YtofdehlikigonaaGreat
open Go.Eng
set_option maxRecDepth 10000
set_option linter.unusedSimpArgs false
set_option linter.unusedVariables false
def idleMk : Mk := ⟨0, 0, 0, -1, false⟩
def voidM (m : Mk) : Mk := if (m.status == 0 || runsM m) = true then endM m 5 else m
def contP (next : Cl) (m : Mk) : Mk := ⟨m.status, m.left, m.got, m.bearer, m.paused && (next.pause != -1)⟩
def contM (old next : Cl) (m : Mk) : Mk :=
  if next.kind = 1 ∧ next.need ≤ m.got then endM (contP next m) 3
  else if m.status = 1 then ⟨m.status, max 1 (m.left + next.after - old.after), m.got, m.bearer, m.paused && (next.pause != -1)⟩
  else if next.grace = 0 then ⟨1, 1, m.got, m.bearer, m.paused && (next.pause != -1)⟩
  else ⟨m.status, max 1 (m.left + next.grace - old.grace), m.got, m.bearer, m.paused && (next.pause != -1)⟩
def restM (old next : Cl) (m : Mk) (hold : List Int) : Mk := ⟨1, next.after, 0, if next.kind = 4 then -1 else if old.kind = 4 then hold.getD next.role.toNat default else m.bearer, false⟩
def spanM (d : Int) (old : Cl) (m : Mk) : Mk := if m.status = 1 then ⟨m.status, max 1 (m.left + d - old.after), m.got, m.bearer, m.paused⟩ else m
theorem idleM_ok : Does Tryz.prog 64 [] (.agg (mkC idleMk)) := by
  refine Does.mk (fun _ => false) TT_ok Tryz.func64 rfl (by kernel_rfl) Tryz.ntmps64 rfl rfl fun E hT hE hN hR => ?_
  have hm : E.P.follows .mixedOrders = true := by rw [hE]; kernel_rfl
  (repeat (first | refine XK.norm rfl rfl ?_ | refine XK.rgnA hT rfl rfl rfl ?_ | refine XK.rgnB hT hm rfl rfl rfl ?_))
  (first | refine XK.out rfl rfl rfl ?_ | refine XK.outN rfl rfl rfl ?_)
  rfl
theorem mruns_ok (m : Mk) : Does Tryz.prog 68 [.agg (mkC m)] (.c (.bool (runsM m))) := by
  refine Does.mk (fun _ => false) TT_ok Tryz.func68 rfl (by kernel_rfl) Tryz.ntmps68 rfl rfl fun E hT hE hN hR => ?_
  have hm : E.P.follows .mixedOrders = true := by rw [hE]; kernel_rfl
  (repeat (first | refine XK.norm rfl rfl ?_ | refine XK.rgnA hT rfl rfl rfl ?_ | refine XK.rgnB hT hm rfl rfl rfl ?_))
  (first | refine XK.out rfl rfl rfl ?_ | refine XK.outN rfl rfl rfl ?_)
  rfl
theorem mended_ok (m : Mk) (s : Int) : Does Tryz.prog 97 [.agg (mkC m), .c (.int .i64 s)] (.agg (mkC (endM m s))) := by
  refine Does.mk (fun _ => false) TT_ok Tryz.func97 rfl (by kernel_rfl) Tryz.ntmps97 rfl rfl fun E hT hE hN hR => ?_
  have hm : E.P.follows .mixedOrders = true := by rw [hE]; kernel_rfl
  (repeat (first | refine XK.norm rfl rfl ?_ | refine XK.rgnA hT rfl rfl rfl ?_ | refine XK.rgnB hT hm rfl rfl rfl ?_))
  (first | refine XK.out rfl rfl rfl ?_ | refine XK.outN rfl rfl rfl ?_)
  rfl
theorem voided_ok (m : Mk) : Does Tryz.prog 67 [.agg (mkC m)] (.agg (mkC (voidM m))) := by
  refine Does.mk (fun _ => false) TT_ok Tryz.func67 rfl (by kernel_rfl) Tryz.ntmps67 rfl rfl fun E hT hE hN hR => ?_
  have hm : E.P.follows .mixedOrders = true := by rw [hE]; kernel_rfl
  (repeat (first | refine XK.norm rfl rfl ?_ | refine XK.rgnA hT rfl rfl rfl ?_ | refine XK.rgnB hT hm rfl rfl rfl ?_)); refine XK.region ?_; refine XL.goA hT rfl rfl rfl rfl ?_
  refine XL.callGA hE rfl rfl rfl rfl rfl rfl rfl rfl (mruns_ok m) rfl ?_
  refine XL.goA hT rfl rfl rfl rfl ?_; refine XL.fin ?_; (repeat (first | refine XK.norm rfl rfl ?_ | refine XK.rgnA hT rfl rfl rfl ?_ | refine XK.rgnB hT hm rfl rfl rfl ?_))
  (repeat (first | refine XK.norm rfl rfl ?_ | refine XK.rgnA hT rfl rfl rfl ?_ | refine XK.rgnB hT hm rfl rfl rfl ?_)); refine XK.cond rfl (fun h => ?_) (fun h => ?_)
  · (repeat (first | refine XK.norm rfl rfl ?_ | refine XK.rgnA hT rfl rfl rfl ?_ | refine XK.rgnB hT hm rfl rfl rfl ?_)); refine XK.region ?_; refine XL.goA hT rfl rfl rfl rfl ?_
    refine XL.callLA hE rfl rfl rfl rfl trivial rfl (mended_ok m 5) rfl ?_
    refine XL.goA hT rfl rfl rfl rfl ?_; refine XL.fin ?_; (repeat (first | refine XK.norm rfl rfl ?_ | refine XK.rgnA hT rfl rfl rfl ?_ | refine XK.rgnB hT hm rfl rfl rfl ?_))
    (first | refine XK.out rfl rfl rfl ?_ | refine XK.outN rfl rfl rfl ?_)
    rw [voidM, if_pos h]
    rfl
  · (repeat (first | refine XK.norm rfl rfl ?_ | refine XK.rgnA hT rfl rfl rfl ?_ | refine XK.rgnB hT hm rfl rfl rfl ?_))
    (first | refine XK.out rfl rfl rfl ?_ | refine XK.outN rfl rfl rfl ?_)
    rw [voidM, if_neg (by rw [h]; exact Bool.false_ne_true)]
    rfl
theorem mx1 (x : Int) : (bif true then (if 1 < x then x else (1 : Int)) else if x < 1 then x else 1) = max 1 x := by
  rw [cond_true]; split <;> omega
/-- Days of a clause, in range. -/
def dB (x : Cl) : Prop := (-1000000 ≤ x.after ∧ x.after ≤ 1000000) ∧ (-1000000 ≤ x.grace ∧ x.grace ≤ 1000000)
def lB (m : Mk) : Prop := -1000000 ≤ m.left ∧ m.left ≤ 1000000
theorem continued_ok (old next : Cl) (m : Mk) (ho : dB old) (hn : dB next) (hb : lB m) :
    Does Tryz.prog 69 [clV old, clV next, .agg (mkC m)] (.agg (mkC (contM old next m))) := by
  obtain ⟨⟨o1, o2⟩, o3, o4⟩ := ho
  obtain ⟨⟨n1, n2⟩, n3, n4⟩ := hn
  obtain ⟨b1, b2⟩ := hb
  refine Does.mk (fun _ => false) TT_ok Tryz.func69 rfl (by kernel_rfl) Tryz.ntmps69 rfl rfl fun E hT hE hN hR => ?_
  have hm : E.P.follows .mixedOrders = true := by rw [hE]; kernel_rfl
  (repeat (first | refine XK.norm rfl rfl ?_ | refine XK.rgnA hT rfl rfl rfl ?_ | refine XK.rgnB hT hm rfl rfl rfl ?_)); refine XK.cond rfl (fun h1 => ?_) (fun h1 => ?_)
  · (repeat (first | refine XK.norm rfl rfl ?_ | refine XK.rgnA hT rfl rfl rfl ?_ | refine XK.rgnB hT hm rfl rfl rfl ?_)); refine XK.region ?_; refine XL.goA hT rfl rfl rfl rfl ?_
    refine XL.callLA hE rfl rfl rfl rfl trivial rfl (mended_ok (contP next m) 3) rfl ?_
    refine XL.goA hT rfl rfl rfl rfl ?_; refine XL.fin ?_; (repeat (first | refine XK.norm rfl rfl ?_ | refine XK.rgnA hT rfl rfl rfl ?_ | refine XK.rgnB hT hm rfl rfl rfl ?_))
    (first | refine XK.out rfl rfl rfl ?_ | refine XK.outN rfl rfl rfl ?_)
    simp only [Bool.and_eq_true, beq_iff_eq, decide_eq_true_eq] at h1
    rw [contM, if_pos h1]
    rfl
  have h1' : ¬ (next.kind = 1 ∧ next.need ≤ m.got) := fun e => by
    simp only [e.1, e.2, decide_true, Bool.and_true, beq_self_eq_true] at h1
    cases h1
  rw [contM, if_neg h1']
  (repeat (first | refine XK.norm rfl rfl ?_ | refine XK.rgnA hT rfl rfl rfl ?_ | refine XK.rgnB hT hm rfl rfl rfl ?_)); refine XK.cond rfl (fun h2 => ?_) (fun h2 => ?_) <;> (try simp at h2)
  · rw [if_pos h2]
    (repeat (first | refine XK.norm rfl rfl ?_ | refine XK.rgnA hT rfl rfl rfl ?_ | refine XK.rgnB hT hm rfl rfl rfl ?_))
    (first | refine XK.out rfl rfl rfl ?_ | refine XK.outN rfl rfl rfl ?_)
    rw [mx1]; rfl
  rw [if_neg h2]
  (repeat (first | refine XK.norm rfl rfl ?_ | refine XK.rgnA hT rfl rfl rfl ?_ | refine XK.rgnB hT hm rfl rfl rfl ?_)); refine XK.cond rfl (fun h3 => ?_) (fun h3 => ?_) <;> (try simp at h3)
  · rw [if_pos h3]
    (repeat (first | refine XK.norm rfl rfl ?_ | refine XK.rgnA hT rfl rfl rfl ?_ | refine XK.rgnB hT hm rfl rfl rfl ?_))
    (first | refine XK.out rfl rfl rfl ?_ | refine XK.outN rfl rfl rfl ?_)
    rfl
  rw [if_neg h3]
  (repeat (first | refine XK.norm rfl rfl ?_ | refine XK.rgnA hT rfl rfl rfl ?_ | refine XK.rgnB hT hm rfl rfl rfl ?_))
  (first | refine XK.out rfl rfl rfl ?_ | refine XK.outN rfl rfl rfl ?_)
  rw [mx1]; rfl
theorem restarted_ok (old next : Cl) (m : Mk) (hold : List Int) (hr : next.kind ≠ 4 → 0 ≤ next.role ∧ next.role < hold.length) :
    Does Tryz.prog 70 [clV old, clV next, .agg (mkC m), intsV hold] (.agg (mkC (restM old next m hold))) := by
  refine Does.mk (fun _ => false) TT_ok Tryz.func70 rfl (by kernel_rfl) Tryz.ntmps70 rfl rfl fun E hT hE hN hR => ?_
  have hm : E.P.follows .mixedOrders = true := by rw [hE]; kernel_rfl
  (repeat (first | refine XK.norm rfl rfl ?_ | refine XK.rgnA hT rfl rfl rfl ?_ | refine XK.rgnB hT hm rfl rfl rfl ?_)); refine XK.cond rfl (fun h1 => ?_) (fun h1 => ?_) <;> (try simp at h1)
  · (repeat (first | refine XK.norm rfl rfl ?_ | refine XK.rgnA hT rfl rfl rfl ?_ | refine XK.rgnB hT hm rfl rfl rfl ?_))
    (first | refine XK.out rfl rfl rfl ?_ | refine XK.outN rfl rfl rfl ?_)
    rw [restM, if_pos h1]
    rfl
  · obtain ⟨r1, r2⟩ := hr h1
    (repeat (first | refine XK.norm rfl rfl ?_ | refine XK.rgnA hT rfl rfl rfl ?_ | refine XK.rgnB hT hm rfl rfl rfl ?_)); refine XK.cond rfl (fun h2 => ?_) (fun h2 => ?_) <;> (try simp at h2)
    · (repeat (first | refine XK.norm rfl rfl ?_ | refine XK.rgnA hT rfl rfl rfl ?_ | refine XK.rgnB hT hm rfl rfl rfl ?_))
      (first | refine XK.out rfl rfl rfl ?_ | refine XK.outN rfl rfl rfl ?_)
      rw [restM, if_neg h1, if_pos h2]
      rfl
    · (repeat (first | refine XK.norm rfl rfl ?_ | refine XK.rgnA hT rfl rfl rfl ?_ | refine XK.rgnB hT hm rfl rfl rfl ?_))
      (first | refine XK.out rfl rfl rfl ?_ | refine XK.outN rfl rfl rfl ?_)
      rw [restM, if_neg h1, if_neg h2]
      rfl
theorem change1_ok (k : K) (p : Pt) (x : Nat) (hx : x < k.clauses.length) (m : Mk) (ho : dB (clAt k x)) (hd : -1000000 ≤ p.days ∧ p.days ≤ 1000000) (hb : lB m) :
    Does Tryz.prog 65 [.c (.int .i64 x), .agg (mkC m), .rptr (ptC p), .rptr (kC k)] (.agg (mkC (spanM p.days (clAt k x) m))) := by
  obtain ⟨⟨o1, o2⟩, o3, o4⟩ := ho
  obtain ⟨b1, b2⟩ := hb
  obtain ⟨d1, d2⟩ := hd
  refine Does.mk (fun _ => false) TT_ok Tryz.func65 rfl (by kernel_rfl) Tryz.ntmps65 rfl rfl fun E hT hE hN hR => ?_
  have hm : E.P.follows .mixedOrders = true := by rw [hE]; kernel_rfl
  have fx : k.clauses.getD (x : Int).toNat default = clAt k x := rfl
  (repeat (first | refine XK.norm rfl rfl ?_ | refine XK.rgnA hT rfl rfl rfl ?_ | refine XK.rgnB hT hm rfl rfl rfl ?_)); refine XK.cond rfl (fun h1 => ?_) (fun h1 => ?_) <;> (try simp at h1)
  · rw [spanM, if_pos h1]
    (repeat (first | refine XK.norm rfl rfl ?_ | refine XK.rgnA hT rfl rfl rfl ?_ | refine XK.rgnB hT hm rfl rfl rfl ?_))
    (first | refine XK.out rfl rfl rfl ?_ | refine XK.outN rfl rfl rfl ?_)
    rw [fx, mx1]; rfl
  · rw [spanM, if_neg h1]
    (repeat (first | refine XK.norm rfl rfl ?_ | refine XK.rgnA hT rfl rfl rfl ?_ | refine XK.rgnB hT hm rfl rfl rfl ?_))
    (first | refine XK.out rfl rfl rfl ?_ | refine XK.outN rfl rfl rfl ?_)
    rfl
def replM (new old : Cl) (m : Mk) (hold : List Int) : Mk := if new.waived = true then voidM m else if runsM m = false then m else if new.kind = old.kind then contM old new m else restM old new m hold
theorem change2_ok (k : K) (p : Pt) (hold : List Int) (x : Nat) (hx : x < k.clauses.length) (m : Mk) (ho : dB (clAt k x)) (hn : dB p.new) (hb : lB m) (hr : p.new.kind ≠ 4 → 0 ≤ p.new.role ∧ p.new.role < hold.length) :
    Does Tryz.prog 66 [.c (.int .i64 x), .agg (mkC m), .rptr (ptC p), .rptr (kC k), .rptr [intsV hold]] (.agg (mkC (replM p.new (clAt k x) m hold))) := by
  refine Does.mk (fun _ => false) TT_ok Tryz.func66 rfl (by kernel_rfl) Tryz.ntmps66 rfl rfl fun E hT hE hN hR => ?_
  have hm : E.P.follows .mixedOrders = true := by rw [hE]; kernel_rfl
  have fx : k.clauses.getD (x : Int).toNat default = clAt k x := rfl
  have hc := continued_ok (clAt k x) p.new m ho hn hb
  have hs := restarted_ok (clAt k x) p.new m hold hr
  (repeat (first | refine XK.norm rfl rfl ?_ | refine XK.rgnA hT rfl rfl rfl ?_ | refine XK.rgnB hT hm rfl rfl rfl ?_)); refine XK.cond rfl (fun h1 => ?_) (fun h1 => ?_)
  · rw [replM, if_pos h1]
    (repeat (first | refine XK.norm rfl rfl ?_ | refine XK.rgnA hT rfl rfl rfl ?_ | refine XK.rgnB hT hm rfl rfl rfl ?_)); refine XK.region ?_; refine XL.goA hT rfl rfl rfl rfl ?_
    refine XL.callLA hE rfl rfl rfl rfl trivial rfl (voided_ok m) rfl ?_
    refine XL.goA hT rfl rfl rfl rfl ?_; refine XL.fin ?_; (repeat (first | refine XK.norm rfl rfl ?_ | refine XK.rgnA hT rfl rfl rfl ?_ | refine XK.rgnB hT hm rfl rfl rfl ?_))
    (first | refine XK.out rfl rfl rfl ?_ | refine XK.outN rfl rfl rfl ?_)
    rfl
  rw [replM, if_neg (by rw [h1]; exact Bool.false_ne_true)]
  (repeat (first | refine XK.norm rfl rfl ?_ | refine XK.rgnA hT rfl rfl rfl ?_ | refine XK.rgnB hT hm rfl rfl rfl ?_)); refine XK.region ?_; refine XL.goA hT rfl rfl rfl rfl ?_
  refine XL.callLA hE rfl rfl rfl rfl trivial rfl (mruns_ok m) rfl ?_
  refine XL.goA hT rfl rfl rfl rfl ?_; refine XL.fin ?_; (repeat (first | refine XK.norm rfl rfl ?_ | refine XK.rgnA hT rfl rfl rfl ?_ | refine XK.rgnB hT hm rfl rfl rfl ?_))
  (repeat (first | refine XK.norm rfl rfl ?_ | refine XK.rgnA hT rfl rfl rfl ?_ | refine XK.rgnB hT hm rfl rfl rfl ?_)); refine XK.cond rfl (fun h2 => ?_) (fun h2 => ?_) <;> (try simp at h2)
  · rw [if_pos h2]
    (repeat (first | refine XK.norm rfl rfl ?_ | refine XK.rgnA hT rfl rfl rfl ?_ | refine XK.rgnB hT hm rfl rfl rfl ?_))
    (first | refine XK.out rfl rfl rfl ?_ | refine XK.outN rfl rfl rfl ?_)
    rfl
  rw [if_neg (by rw [h2]; simp)]
  (repeat (first | refine XK.norm rfl rfl ?_ | refine XK.rgnA hT rfl rfl rfl ?_ | refine XK.rgnB hT hm rfl rfl rfl ?_))
  rw [fx]
  (repeat (first | refine XK.norm rfl rfl ?_ | refine XK.rgnA hT rfl rfl rfl ?_ | refine XK.rgnB hT hm rfl rfl rfl ?_)); refine XK.cond rfl (fun h3 => ?_) (fun h3 => ?_) <;> (try simp at h3)
  · rw [if_pos h3]
    (repeat (first | refine XK.norm rfl rfl ?_ | refine XK.rgnA hT rfl rfl rfl ?_ | refine XK.rgnB hT hm rfl rfl rfl ?_)); refine XK.drawn hm ?_; refine XD.goA hT rfl rfl rfl rfl ?_
    rw [fx]
    refine XD.callLA hE rfl rfl rfl rfl trivial rfl (hc) rfl ?_
    refine XD.goA hT rfl rfl rfl rfl ?_; refine XD.fin (by kernel_rfl) ?_; (repeat (first | refine XK.norm rfl rfl ?_ | refine XK.rgnA hT rfl rfl rfl ?_ | refine XK.rgnB hT hm rfl rfl rfl ?_))
    (first | refine XK.out rfl rfl rfl ?_ | refine XK.outN rfl rfl rfl ?_)
    rfl
  · rw [if_neg h3]
    (repeat (first | refine XK.norm rfl rfl ?_ | refine XK.rgnA hT rfl rfl rfl ?_ | refine XK.rgnB hT hm rfl rfl rfl ?_)); refine XK.drawn hm ?_; refine XD.goA hT rfl rfl rfl rfl ?_
    rw [fx]
    refine XD.callLA hE rfl rfl rfl rfl trivial rfl (hs) rfl ?_
    refine XD.goA hT rfl rfl rfl rfl ?_; refine XD.fin (by kernel_rfl) ?_; (repeat (first | refine XK.norm rfl rfl ?_ | refine XK.rgnA hT rfl rfl rfl ?_ | refine XK.rgnB hT hm rfl rfl rfl ?_))
    (first | refine XK.out rfl rfl rfl ?_ | refine XK.outN rfl rfl rfl ?_)
    rfl
def addM (new : Cl) (m : Mk) : Mk := if new.waived = true then voidM m else m
theorem change3_ok (p : Pt) (x : Int) (m : Mk) : Does Tryz.prog 71 [.c (.int .i64 x), .agg (mkC m), .rptr (ptC p)] (.agg (mkC (addM p.new m))) := by
  refine Does.mk (fun _ => false) TT_ok Tryz.func71 rfl (by kernel_rfl) Tryz.ntmps71 rfl rfl fun E hT hE hN hR => ?_
  have hm : E.P.follows .mixedOrders = true := by rw [hE]; kernel_rfl
  (repeat (first | refine XK.norm rfl rfl ?_ | refine XK.rgnA hT rfl rfl rfl ?_ | refine XK.rgnB hT hm rfl rfl rfl ?_)); refine XK.cond rfl (fun h1 => ?_) (fun h1 => ?_)
  · rw [addM, if_pos h1]
    (repeat (first | refine XK.norm rfl rfl ?_ | refine XK.rgnA hT rfl rfl rfl ?_ | refine XK.rgnB hT hm rfl rfl rfl ?_)); refine XK.region ?_; refine XL.goA hT rfl rfl rfl rfl ?_
    refine XL.callLA hE rfl rfl rfl rfl trivial rfl (voided_ok m) rfl ?_
    refine XL.goA hT rfl rfl rfl rfl ?_; refine XL.fin ?_; (repeat (first | refine XK.norm rfl rfl ?_ | refine XK.rgnA hT rfl rfl rfl ?_ | refine XK.rgnB hT hm rfl rfl rfl ?_))
    (first | refine XK.out rfl rfl rfl ?_ | refine XK.outN rfl rfl rfl ?_)
    rfl
  · rw [addM, if_neg (by rw [h1]; exact Bool.false_ne_true)]
    (repeat (first | refine XK.norm rfl rfl ?_ | refine XK.rgnA hT rfl rfl rfl ?_ | refine XK.rgnB hT hm rfl rfl rfl ?_))
    (first | refine XK.out rfl rfl rfl ?_ | refine XK.outN rfl rfl rfl ?_)
    rfl
theorem change4_ok (x : Int) (m : Mk) : Does Tryz.prog 72 [.c (.int .i64 x), .agg (mkC m)] (.agg (mkC (voidM m))) := by
  refine Does.mk (fun _ => false) TT_ok Tryz.func72 rfl (by kernel_rfl) Tryz.ntmps72 rfl rfl fun E hT hE hN hR => ?_
  have hm : E.P.follows .mixedOrders = true := by rw [hE]; kernel_rfl
  (repeat (first | refine XK.norm rfl rfl ?_ | refine XK.rgnA hT rfl rfl rfl ?_ | refine XK.rgnB hT hm rfl rfl rfl ?_)); refine XK.region ?_; refine XL.goA hT rfl rfl rfl rfl ?_
  refine XL.callLA hE rfl rfl rfl rfl trivial rfl (voided_ok m) rfl ?_
  refine XL.goA hT rfl rfl rfl rfl ?_; refine XL.fin ?_; (repeat (first | refine XK.norm rfl rfl ?_ | refine XK.rgnA hT rfl rfl rfl ?_ | refine XK.rgnB hT hm rfl rfl rfl ?_))
  (first | refine XK.out rfl rfl rfl ?_ | refine XK.outN rfl rfl rfl ?_)
  rfl
end Go.Proofs.YtofdehlikigonaaGreat
end
section
/- Contracts: package migrate: conditions that hold; waiting clauses. -/
namespace Go.Proofs.YtofdehlikigonaaGreat
open Go.Eng
set_option maxRecDepth 10000
set_option linter.unusedSimpArgs false
set_option linter.unusedVariables false
def mRow (n : Nat) (mk : Nat → Mk) : Ob := .vec 47 5 0 n (fun i => mkC (mk i))
def stO (day : Int) (hs : List Int) (us : List Bool) (q : Nat) : Ob := .cells 38 [.c (.int .i64 day), intsV hs, boolsV us, .vec q 0]
theorem mholds_ok (n : Nat) (mk : Nat → Mk) (c : Cnd) (hc : 0 ≤ c.clause ∧ c.clause < n) : DoesM Tryz.prog 74 [.vec 0 0, .agg (cndC c)] [mRow n mk] (.c (.bool (condHB mk c))) [mRow n mk] := by
  obtain ⟨h1, h2⟩ := hc
  refine DoesM.mk (fun _ => false) 100 TT_ok Tryz.func74 rfl (by kernel_rfl) Tryz.ntmps74 rfl rfl rfl fun E hT hE hN hR => ?_
  have hm : E.P.follows .mixedOrders = true := by rw [hE]; kernel_rfl
  (repeat (first | refine XK.norm rfl rfl ?_ | refine XK.rgnA hT rfl rfl rfl ?_ | refine XK.rgnB hT hm rfl rfl rfl ?_)); refine XK.cond rfl (fun c1 => ?_) (fun c1 => ?_) <;> (try simp at c1)
  · (repeat (first | refine XK.norm rfl rfl ?_ | refine XK.rgnA hT rfl rfl rfl ?_ | refine XK.rgnB hT hm rfl rfl rfl ?_))
    (first | refine XK.outR [0] hN rfl rfl rfl ?_ rfl rfl ?_ | refine XK.outRN [0] hN rfl rfl rfl ?_ rfl rfl ?_)
    · (repeat' (first | exact rfl | exact AvIs.refl _ | exact trivial | exact fun _ _ => rfl | exact fun _ _ => ⟨rfl, AvIs.refl _⟩ | refine ⟨?_, ?_⟩))
    · rw [condHB, if_pos c1]; exact AvIs.refl _
  · (repeat (first | refine XK.norm rfl rfl ?_ | refine XK.rgnA hT rfl rfl rfl ?_ | refine XK.rgnB hT hm rfl rfl rfl ?_)); refine XK.cond rfl (fun c2 => ?_) (fun c2 => ?_) <;> (try simp at c2)
    · (repeat (first | refine XK.norm rfl rfl ?_ | refine XK.rgnA hT rfl rfl rfl ?_ | refine XK.rgnB hT hm rfl rfl rfl ?_))
      (first | refine XK.outR [0] hN rfl rfl rfl ?_ rfl rfl ?_ | refine XK.outRN [0] hN rfl rfl rfl ?_ rfl rfl ?_)
      · (repeat' (first | exact rfl | exact AvIs.refl _ | exact trivial | exact fun _ _ => rfl | exact fun _ _ => ⟨rfl, AvIs.refl _⟩ | refine ⟨?_, ?_⟩))
      · rw [condHB, if_neg c1, if_pos c2]; exact AvIs.refl _
    · (repeat (first | refine XK.norm rfl rfl ?_ | refine XK.rgnA hT rfl rfl rfl ?_ | refine XK.rgnB hT hm rfl rfl rfl ?_)); refine XK.cond rfl (fun c3 => ?_) (fun c3 => ?_) <;> (try simp at c3)
      · (repeat (first | refine XK.norm rfl rfl ?_ | refine XK.rgnA hT rfl rfl rfl ?_ | refine XK.rgnB hT hm rfl rfl rfl ?_))
        (first | refine XK.outR [0] hN rfl rfl rfl ?_ rfl rfl ?_ | refine XK.outRN [0] hN rfl rfl rfl ?_ rfl rfl ?_)
        · (repeat' (first | exact rfl | exact AvIs.refl _ | exact trivial | exact fun _ _ => rfl | exact fun _ _ => ⟨rfl, AvIs.refl _⟩ | refine ⟨?_, ?_⟩))
        · rw [condHB, if_neg c1, if_neg c2, if_pos c3]; exact AvIs.refl _
      · (repeat (first | refine XK.norm rfl rfl ?_ | refine XK.rgnA hT rfl rfl rfl ?_ | refine XK.rgnB hT hm rfl rfl rfl ?_)); refine XK.cond rfl (fun c4 => ?_) (fun c4 => ?_) <;> (try simp at c4)
        · (repeat (first | refine XK.norm rfl rfl ?_ | refine XK.rgnA hT rfl rfl rfl ?_ | refine XK.rgnB hT hm rfl rfl rfl ?_))
          (first | refine XK.outR [0] hN rfl rfl rfl ?_ rfl rfl ?_ | refine XK.outRN [0] hN rfl rfl rfl ?_ rfl rfl ?_)
          · (repeat' (first | exact rfl | exact AvIs.refl _ | exact trivial | exact fun _ _ => rfl | exact fun _ _ => ⟨rfl, AvIs.refl _⟩ | refine ⟨?_, ?_⟩))
          · rw [condHB, if_neg c1, if_neg c2, if_neg c3, if_pos c4]; exact AvIs.refl _
        · (repeat (first | refine XK.norm rfl rfl ?_ | refine XK.rgnA hT rfl rfl rfl ?_ | refine XK.rgnB hT hm rfl rfl rfl ?_))
          (first | refine XK.outR [0] hN rfl rfl rfl ?_ rfl rfl ?_ | refine XK.outRN [0] hN rfl rfl rfl ?_ rfl rfl ?_)
          · (repeat' (first | exact rfl | exact AvIs.refl _ | exact trivial | exact fun _ _ => rfl | exact fun _ _ => ⟨rfl, AvIs.refl _⟩ | refine ⟨?_, ?_⟩))
          · rw [condHB, if_neg c1, if_neg c2, if_neg c3, if_neg c4]; exact AvIs.refl _
theorem waits_ok (day : Int) (hs : List Int) (us : List Bool) (n : Nat) (mk : Nat → Mk) (c : Cnd) (hc : 0 ≤ c.clause ∧ c.clause < n) : DoesM Tryz.prog 73 [.agg (cndC c), .ptr 0 0] [stO day hs us 1, mRow n mk] (.c (.bool (!condHB mk c))) [stO day hs us 1, mRow n mk] := by
  have hh := mholds_ok n mk c hc
  refine DoesM.mk (fun _ => false) 100 TT_ok Tryz.func73 rfl (by kernel_rfl) Tryz.ntmps73 rfl rfl rfl fun E hT hE hN hR => ?_
  have hm : E.P.follows .mixedOrders = true := by rw [hE]; kernel_rfl
  (repeat (first | refine XK.norm rfl rfl ?_ | refine XK.rgnA hT rfl rfl rfl ?_ | refine XK.rgnB hT hm rfl rfl rfl ?_)); refine XK.region ?_; refine XL.goA hT rfl rfl rfl rfl ?_
  refine XL.callMA [1] hE rfl rfl rfl rfl trivial (hh) rfl rfl rfl rfl rfl ?_
  refine XL.goA hT rfl rfl rfl rfl ?_; refine XL.fin ?_; (repeat (first | refine XK.norm rfl rfl ?_ | refine XK.rgnA hT rfl rfl rfl ?_ | refine XK.rgnB hT hm rfl rfl rfl ?_))
  (first | refine XK.outR [0, 1] hN rfl rfl rfl ?_ rfl rfl ?_ | refine XK.outRN [0, 1] hN rfl rfl rfl ?_ rfl rfl ?_)
  · (repeat' (first | exact rfl | exact AvIs.refl _ | exact trivial | exact fun _ _ => rfl | exact fun _ _ => ⟨rfl, AvIs.refl _⟩ | refine ⟨?_, ?_⟩))
  · (repeat' (first | exact rfl | exact AvIs.refl _ | exact trivial | exact fun _ _ => rfl | exact fun _ _ => ⟨rfl, AvIs.refl _⟩ | refine ⟨?_, ?_⟩))
/-- The first place where a condition does not hold. -/
def waitAt (mk : Nat → Mk) (l : List Cnd) : Int := match l.findIdx? (fun c => !condHB mk c) with | some i => i | none => -1
theorem waitAt_yes {mk : Nat → Mk} {l : List Cnd} {i : Nat} (hi : i < l.length) (hj : ∀ j, j < i → condHB mk (l.getD j default) = true) (h : condHB mk (l.getD i default) = false) : waitAt mk l = i := by
  have : l.findIdx? (fun c => !condHB mk c) = some i := by
    rw [List.findIdx?_eq_some_iff_getElem]
    refine ⟨hi, ?_, fun j hj' => ?_⟩
    · have e : l.getD i default = l[i] := by simp [List.getD, hi]
      rw [← e, h]; rfl
    · have hjl : j < l.length := by omega
      have e : l.getD j default = l[j] := by simp [List.getD, hjl]
      rw [← e, hj j hj']; simp
  rw [waitAt, this]
theorem waitAt_no {mk : Nat → Mk} {l : List Cnd} (hj : ∀ j, j < l.length → condHB mk (l.getD j default) = true) : waitAt mk l = -1 := by
  have : l.findIdx? (fun c => !condHB mk c) = none := by
    rw [List.findIdx?_eq_none_iff]
    intro x hx
    obtain ⟨j, hjl, rfl⟩ := List.getElem_of_mem hx
    have e : l.getD j default = l[j] := by simp [List.getD, hjl]
    rw [← e, hj j hjl]; rfl
  rw [waitAt, this]
theorem index_ok (day : Int) (hs : List Int) (us : List Bool) (n : Nat) (mk : Nat → Mk) (l : List Cnd) (hl : l.length ≤ 1000000) (hc : ∀ i, i < l.length → 0 ≤ (l.getD i default).clause ∧ (l.getD i default).clause < n) :
    DoesM Tryz.prog 98 [cndsV l, .fn (.func 73) [] [.ptr 0 0]] [stO day hs us 1, mRow n mk] (.c (.int .i64 (waitAt mk l))) [stO day hs us 1, mRow n mk] := by
  refine DoesM.mk (fun _ => false) 100 TT_ok Tryz.func98 rfl (by kernel_rfl) Tryz.ntmps98 rfl rfl rfl fun E hT hE hN hR => ?_
  have hm : E.P.follows .mixedOrders = true := by rw [hE]; kernel_rfl
  (repeat (first | refine XK.norm rfl rfl ?_ | refine XK.rgnA hT rfl rfl rfl ?_ | refine XK.rgnB hT hm rfl rfl rfl ?_))
  refine XK.loop (ι := Nat) (fun i => ST.of [(0, cndsV l), (1, .fn (.func 73) [] [.ptr 0 0]), (7, .c (.int .i64 l.length)), (8, .c (.int .i64 i))] [(0, stO day hs us 1), (1, mRow n mk)] 1000 19 (fun _ => false))
    (fun i => i ≤ l.length ∧ ∀ j, j < i → condHB mk (l.getD j default) = true) (fun i => l.length - i) 0 ⟨Nat.zero_le _, fun j hj => absurd hj (Nat.not_lt_zero _)⟩
    (Weak.of hN rfl rfl rfl (by (repeat' (first | exact rfl | exact AvIs.refl _ | exact trivial | exact fun _ _ => rfl | exact fun _ _ => ⟨rfl, AvIs.refl _⟩ | refine ⟨?_, ?_⟩))) (by (repeat' (first | exact rfl | exact AvIs.refl _ | exact trivial | exact fun _ _ => rfl | exact fun _ _ => ⟨rfl, AvIs.refl _⟩ | refine ⟨?_, ?_⟩)))) fun i hi => ?_
  obtain ⟨hi, hj⟩ := hi
  (repeat (first | refine XK.norm rfl rfl ?_ | refine XK.rgnA hT rfl rfl rfl ?_ | refine XK.rgnB hT hm rfl rfl rfl ?_)); refine XK.cond rfl (fun hlt => ?_) (fun hlt => ?_) <;> (try simp at hlt)
  · have fx : l.getD (i : Int).toNat default = l.getD i default := rfl
    have hw := waits_ok day hs us n mk (l.getD i default) (hc i hlt)
    (repeat (first | refine XK.norm rfl rfl ?_ | refine XK.rgnA hT rfl rfl rfl ?_ | refine XK.rgnB hT hm rfl rfl rfl ?_))
    (repeat (first | refine XK.norm rfl rfl ?_ | refine XK.rgnA hT rfl rfl rfl ?_ | refine XK.rgnB hT hm rfl rfl rfl ?_)); refine XK.region ?_; refine XL.goA hT rfl rfl rfl rfl ?_
    rw [fx]
    refine XL.callMA [0, 1] hE rfl rfl rfl rfl trivial (hw) rfl rfl rfl rfl rfl ?_
    refine XL.goA hT rfl rfl rfl rfl ?_; refine XL.fin ?_; (repeat (first | refine XK.norm rfl rfl ?_ | refine XK.rgnA hT rfl rfl rfl ?_ | refine XK.rgnB hT hm rfl rfl rfl ?_))
    have hwy := waitAt_yes (mk := mk) hlt hj
    have hcn : ∀ b, condHB mk (l.getD i default) = b → ∀ j, b = true → j < i + 1 → condHB mk (l.getD j default) = true := fun b hb j e hj' => by
      by_cases e' : j = i
      · subst e'; rw [hb, e]
      · exact hj j (by omega)
    generalize condHB mk (l.getD i default) = b at *
    (repeat (first | refine XK.norm rfl rfl ?_ | refine XK.rgnA hT rfl rfl rfl ?_ | refine XK.rgnB hT hm rfl rfl rfl ?_)); refine XK.cond rfl (fun h1 => ?_) (fun h1 => ?_)
    · have h1 : b = false := by simpa using h1
      (repeat (first | refine XK.norm rfl rfl ?_ | refine XK.rgnA hT rfl rfl rfl ?_ | refine XK.rgnB hT hm rfl rfl rfl ?_))
      (first | refine XK.outR [0, 1] hN rfl rfl rfl ?_ rfl rfl ?_ | refine XK.outRN [0, 1] hN rfl rfl rfl ?_ rfl rfl ?_)
      · (repeat' (first | exact rfl | exact AvIs.refl _ | exact trivial | exact fun _ _ => rfl | exact fun _ _ => ⟨rfl, AvIs.refl _⟩ | refine ⟨?_, ?_⟩))
      · rw [hwy h1]; exact AvIs.refl _
    · have h1 : b = true := by simpa using h1
      (repeat (first | refine XK.norm rfl rfl ?_ | refine XK.rgnA hT rfl rfl rfl ?_ | refine XK.rgnB hT hm rfl rfl rfl ?_))
      exact XK.inv ⟨i + 1, ⟨hlt, fun j hj' => hcn b rfl j h1 hj'⟩, (Weak.of hN rfl rfl rfl (by (repeat' (first | exact rfl | exact AvIs.refl _ | exact trivial | exact fun _ _ => rfl | exact fun _ _ => ⟨rfl, AvIs.refl _⟩ | refine ⟨?_, ?_⟩))) (by (repeat' (first | exact rfl | exact AvIs.refl _ | exact trivial | exact fun _ _ => rfl | exact fun _ _ => ⟨rfl, AvIs.refl _⟩ | refine ⟨?_, ?_⟩)))), by omega⟩
  · (repeat (first | refine XK.norm rfl rfl ?_ | refine XK.rgnA hT rfl rfl rfl ?_ | refine XK.rgnB hT hm rfl rfl rfl ?_))
    (first | refine XK.outR [0, 1] hN rfl rfl rfl ?_ rfl rfl ?_ | refine XK.outRN [0, 1] hN rfl rfl rfl ?_ rfl rfl ?_)
    · (repeat' (first | exact rfl | exact AvIs.refl _ | exact trivial | exact fun _ _ => rfl | exact fun _ _ => ⟨rfl, AvIs.refl _⟩ | refine ⟨?_, ?_⟩))
    · rw [waitAt_no fun j hj' => hj j (by omega)]; exact AvIs.refl _
theorem waitAt_neg (mk : Nat → Mk) (l : List Cnd) : decide (0 ≤ waitAt mk l) = !(l.all (condHB mk)) := by
  by_cases h : l.all (condHB mk) = true
  · rw [waitAt_no fun j hj => List.all_eq_true.1 h _ (getD_memW hj), h]
    rfl
  · unfold waitAt
    cases hf : l.findIdx? (fun c => !condHB mk c) with
    | some i =>
      have : l.all (condHB mk) = false := by simpa using h
      rw [this]
      simp only [decide_eq_true_eq, Bool.not_false]
      omega
    | none =>
      rw [List.findIdx?_eq_none_iff] at hf
      exact absurd (List.all_eq_true.2 fun x hx => by have := hf x hx; simpa using this) h
theorem contains_ok (day : Int) (hs : List Int) (us : List Bool) (n : Nat) (mk : Nat → Mk) (l : List Cnd) (hl : l.length ≤ 1000000) (hc : ∀ i, i < l.length → 0 ≤ (l.getD i default).clause ∧ (l.getD i default).clause < n) :
    DoesM Tryz.prog 75 [cndsV l, .fn (.func 73) [] [.ptr 0 0]] [stO day hs us 1, mRow n mk] (.c (.bool (!(l.all (condHB mk))))) [stO day hs us 1, mRow n mk] := by
  have hi := index_ok day hs us n mk l hl hc
  have hn := waitAt_neg mk l
  generalize waitAt mk l = z at *
  refine DoesM.mk (fun _ => false) 100 TT_ok Tryz.func75 rfl (by kernel_rfl) Tryz.ntmps75 rfl rfl rfl fun E hT hE hN hR => ?_
  have hm : E.P.follows .mixedOrders = true := by rw [hE]; kernel_rfl
  (repeat (first | refine XK.norm rfl rfl ?_ | refine XK.rgnA hT rfl rfl rfl ?_ | refine XK.rgnB hT hm rfl rfl rfl ?_)); refine XK.region ?_; refine XL.goA hT rfl rfl rfl rfl ?_
  refine XL.callMA [0, 1] hE rfl rfl rfl rfl trivial (hi) rfl rfl rfl rfl rfl ?_
  refine XL.goA hT rfl rfl rfl rfl ?_; refine XL.fin ?_; (repeat (first | refine XK.norm rfl rfl ?_ | refine XK.rgnA hT rfl rfl rfl ?_ | refine XK.rgnB hT hm rfl rfl rfl ?_))
  (first | refine XK.outR [0, 1] hN rfl rfl rfl ?_ rfl rfl ?_ | refine XK.outRN [0, 1] hN rfl rfl rfl ?_ rfl rfl ?_)
  · (repeat' (first | exact rfl | exact AvIs.refl _ | exact trivial | exact fun _ _ => rfl | exact fun _ _ => ⟨rfl, AvIs.refl _⟩ | refine ⟨?_, ?_⟩))
  · rw [← hn]; exact AvIs.refl _
end Go.Proofs.YtofdehlikigonaaGreat
end
section
/- Contracts: package migrate: start. -/
namespace Go.Proofs.YtofdehlikigonaaGreat
open Go.Eng
set_option maxRecDepth 10000
set_option linter.unusedSimpArgs false
set_option linter.unusedVariables false
theorem mstart_ok (k : K) (hk : KFacts k) (day : Int) (hs : List Int) (us : List Bool) (hh : hs.length = k.holders.length) (w : Wk) (hw : ∀ j, w.hold j = hs.getD j default) :
    DoesM Tryz.prog 46 [kV k, .agg [.c (.int .i64 day), intsV hs, boolsV us, .vec 0 0]] [mRow k.clauses.length w.mark] (.tup []) [mRow k.clauses.length (startW k w).mark] := by
  refine DoesM.mk (fun _ => false) 100 TT_ok Tryz.func46 rfl (by kernel_rfl) Tryz.ntmps46 rfl rfl rfl fun E hT hE hN hR => ?_
  have hm : E.P.follows .mixedOrders = true := by rw [hE]; kernel_rfl
  have hnc := hk.nc
  (repeat (first | refine XK.norm rfl rfl ?_ | refine XK.rgnA hT rfl rfl rfl ?_ | refine XK.rgnB hT hm rfl rfl rfl ?_))
  refine XK.loop (ι := Nat × Wk × Bool) (fun q => ST.of [(2, .ptr 102 0), (3, .ptr 103 0), (4, .c (.bool q.2.2))] [(0, mRow k.clauses.length q.2.1.mark), (102, .cells 27 (kC k)), (103, stO day hs us 0)] 1000 57 (fun _ => false))
    (fun q => (∀ j, q.2.1.hold j = hs.getD j default) ∧ (q.2.2 = true → startN k q.1 q.2.1 = startW k w ∧ idleN k q.2.1.mark < q.1) ∧ (q.2.2 = false → q.2.1 = startW k w)) (fun q => if q.2.2 = true then q.1 + 1 else 0) (idleN k w.mark + 1, w, true)
    ⟨hw, fun _ => ⟨rfl, Nat.lt_succ_self _⟩, fun h => nomatch h⟩
    (Weak.of hN rfl rfl rfl (by (repeat' (first | exact rfl | exact AvIs.refl _ | exact trivial | exact fun _ _ => rfl | exact fun _ _ => ⟨rfl, AvIs.refl _⟩ | refine ⟨?_, ?_⟩))) (by (repeat' (first | exact rfl | exact AvIs.refl _ | exact trivial | exact fun _ _ => rfl | exact fun _ _ => ⟨rfl, AvIs.refl _⟩ | refine ⟨?_, ?_⟩)))) fun q hq => ?_
  obtain ⟨f, w1, b⟩ := q
  obtain ⟨g0, g1, g2⟩ := hq
  dsimp only at g0 g1 g2
  dsimp only
  (repeat (first | refine XK.norm rfl rfl ?_ | refine XK.rgnA hT rfl rfl rfl ?_ | refine XK.rgnB hT hm rfl rfl rfl ?_)); refine XK.cond rfl (fun hb => ?_) (fun hb => ?_)
  · have hb : b = true := hb
    subst hb
    obtain ⟨g1, g3⟩ := g1 rfl
    clear g2
    obtain ⟨f, rfl⟩ : ∃ f', f = f' + 1 := ⟨f - 1, by omega⟩
    (repeat (first | refine XK.norm rfl rfl ?_ | refine XK.rgnA hT rfl rfl rfl ?_ | refine XK.rgnB hT hm rfl rfl rfl ?_))
    refine XK.loop (ι := Nat) (fun i => ST.of [(2, .ptr 102 0), (3, .ptr 103 0), (4, .c (.bool (passTo k w1 i).2)), (10, clsV k.clauses), (11, .c (.int .i64 k.clauses.length)), (12, .c (.int .i64 i))] [(0, mRow k.clauses.length (passTo k w1 i).1.mark), (102, .cells 27 (kC k)), (103, stO day hs us 0)] 2000 57 (fun _ => false))
      (fun i => i ≤ k.clauses.length) (fun i => k.clauses.length - i) 0 (Nat.zero_le _)
      (Weak.of hN rfl rfl rfl (by (repeat' (first | exact rfl | exact AvIs.refl _ | exact trivial | exact fun _ _ => rfl | exact fun _ _ => ⟨rfl, AvIs.refl _⟩ | refine ⟨?_, ?_⟩))) (by (repeat' (first | exact rfl | exact AvIs.refl _ | exact trivial | exact fun _ _ => rfl | exact fun _ _ => ⟨rfl, AvIs.refl _⟩ | refine ⟨?_, ?_⟩)))) fun i hi => ?_
    (repeat (first | refine XK.norm rfl rfl ?_ | refine XK.rgnA hT rfl rfl rfl ?_ | refine XK.rgnB hT hm rfl rfl rfl ?_)); refine XK.cond rfl (fun hlt => ?_) (fun hlt => ?_) <;> (try simp at hlt)
    · have fc : k.clauses.getD (i : Int).toNat default = clAt k i := rfl
      have hkf := kindW (hk.clB hlt).2.2.1
      have hp : passTo k w1 (i + 1) = if rdyB k (passTo k w1 i).1.mark i = true then ((passTo k w1 i).1.upM i (liveM k (passTo k w1 i).1.hold i), true) else passTo k w1 i := rfl
      have hph : ∀ j, (passTo k w1 i).1.hold j = hs.getD j default := fun j => by rw [pass_hold hi]; exact g0 j
      generalize passTo k w1 i = p at *
      obtain ⟨w2, b2⟩ := p
      dsimp only at hp hph
      dsimp only
      (repeat (first | refine XK.norm rfl rfl ?_ | refine XK.rgnA hT rfl rfl rfl ?_ | refine XK.rgnB hT hm rfl rfl rfl ?_))
      have hcb := hk.clB hlt
      have hct := contains_ok day hs us k.clauses.length w2.mark (clAt k i).start (Nat.le_trans hcb.2.2.2.1 (by decide)) (fun j hj => by
        have := hcb.2.2.2.2.1 _ (getD_memW hj)
        simp only [condB, Bool.not_eq_true', Bool.or_eq_false_iff, decide_eq_false_iff_not] at this
        omega)
      have hrd : rdyB k w2.mark i = if ((w2.mark i).status != 0 || (clAt k i).waived) = true then false else (clAt k i).start.all (condHB w2.mark) := rfl
      generalize (clAt k i).start.all (condHB w2.mark) = al at *
      refine XK.weak (st' := ST.of [(2, .ptr 102 0), (3, .ptr 103 0), (4, .c (.bool b2)), (5, .c (.int .i64 i)), (6, .ptr 2063 0), (7, .fn (.func 73) [] [.ptr 103 0]), (10, clsV k.clauses), (11, .c (.int .i64 k.clauses.length)), (12, .c (.int .i64 i))]
        [(0, mRow k.clauses.length w2.mark), (102, .cells 27 (kC k)), (103, stO day hs us 0), (2063, .cells 32 (clC (clAt k i)))] 3000 57 (fun _ => false)) (Weak.of hN rfl rfl rfl (by (repeat' (first | exact rfl | exact AvIs.refl _ | exact trivial | exact fun _ _ => rfl | exact fun _ _ => ⟨rfl, AvIs.refl _⟩ | refine ⟨?_, ?_⟩))) (by (repeat' (first | exact rfl | exact AvIs.refl _ | exact trivial | exact fun _ _ => rfl | exact fun _ _ => ⟨rfl, AvIs.refl _⟩ | refine ⟨?_, ?_⟩)))) ?_
      clear hcb
      (repeat (first | refine XK.norm rfl rfl ?_ | refine XK.rgnA hT rfl rfl rfl ?_ | refine XK.rgnB hT hm rfl rfl rfl ?_)); refine XK.region ?_; refine XL.goA hT rfl rfl rfl rfl ?_
      refine XL.callMG [103, 0] (.c (.bool false)) hE rfl rfl rfl rfl rfl rfl (fun hgd => ?_) rfl (fun hgd => ?_) (fun hgd => hct) rfl ?_ rfl (fun hgd => ?_) rfl rfl rfl (fun hgd => ?_)
      · have hX : ((w2.mark i).status != 0 || (clAt k i).waived) = true := by
          have : (!((w2.mark (i : Int).toNat).status != 0 || (clAt k i).waived)) = false := hgd
          rwa [Bool.not_eq_false'] at this
        rw [if_pos hX] at hrd
        rw [if_neg (by rw [hrd]; exact Bool.false_ne_true)] at hp
        refine XL.goA hT rfl rfl rfl rfl ?_; refine XL.fin ?_; (repeat (first | refine XK.norm rfl rfl ?_ | refine XK.rgnA hT rfl rfl rfl ?_ | refine XK.rgnB hT hm rfl rfl rfl ?_))
        (repeat (first | refine XK.norm rfl rfl ?_ | refine XK.rgnA hT rfl rfl rfl ?_ | refine XK.rgnB hT hm rfl rfl rfl ?_)); refine XK.cond rfl (fun h1 => ?_) (fun h1 => ?_)
        · (repeat (first | refine XK.norm rfl rfl ?_ | refine XK.rgnA hT rfl rfl rfl ?_ | refine XK.rgnB hT hm rfl rfl rfl ?_))
          refine XK.inv ⟨i + 1, hlt, ?_, by omega⟩
          rw [hp]
          exact (Weak.of hN rfl rfl rfl (by (repeat' (first | exact rfl | exact AvIs.refl _ | exact trivial | exact fun _ _ => rfl | exact fun _ _ => ⟨rfl, AvIs.refl _⟩ | refine ⟨?_, ?_⟩))) (by (repeat' (first | exact rfl | exact AvIs.refl _ | exact trivial | exact fun _ _ => rfl | exact fun _ _ => ⟨rfl, AvIs.refl _⟩ | refine ⟨?_, ?_⟩))))
        · exfalso
          rw [show (i : Int).toNat = i from rfl, hX] at h1
          simp at h1
      · simp only [AllP, impG, hgd]; simp
      · (repeat' (first | exact rfl | exact AvIs.refl _ | exact trivial | exact fun _ _ => rfl | exact fun _ _ => ⟨rfl, AvIs.refl _⟩ | refine ⟨?_, ?_⟩))
      · (repeat' (first | exact rfl | exact AvIs.refl _ | exact trivial | exact fun _ _ => rfl | exact fun _ _ => ⟨rfl, AvIs.refl _⟩ | refine ⟨?_, ?_⟩))
      · have hX : ((w2.mark i).status != 0 || (clAt k i).waived) = false := by
          have : (!((w2.mark (i : Int).toNat).status != 0 || (clAt k i).waived)) = true := hgd
          rwa [Bool.not_eq_true'] at this
        rw [if_neg (by rw [hX]; exact Bool.false_ne_true)] at hrd
        rw [hrd] at hp
        refine XL.goA hT rfl rfl rfl rfl ?_; refine XL.fin ?_; (repeat (first | refine XK.norm rfl rfl ?_ | refine XK.rgnA hT rfl rfl rfl ?_ | refine XK.rgnB hT hm rfl rfl rfl ?_))
        (repeat (first | refine XK.norm rfl rfl ?_ | refine XK.rgnA hT rfl rfl rfl ?_ | refine XK.rgnB hT hm rfl rfl rfl ?_)); refine XK.cond rfl (fun h1 => ?_) (fun h1 => ?_)
        · have h1 : al = false := by
            rw [show (i : Int).toNat = i from rfl, hX] at h1
            simpa using h1
          rw [if_neg (by rw [h1]; exact Bool.false_ne_true)] at hp
          (repeat (first | refine XK.norm rfl rfl ?_ | refine XK.rgnA hT rfl rfl rfl ?_ | refine XK.rgnB hT hm rfl rfl rfl ?_))
          refine XK.inv ⟨i + 1, hlt, ?_, by omega⟩
          rw [hp]
          exact (Weak.of hN rfl rfl rfl (by (repeat' (first | exact rfl | exact AvIs.refl _ | exact trivial | exact fun _ _ => rfl | exact fun _ _ => ⟨rfl, AvIs.refl _⟩ | refine ⟨?_, ?_⟩))) (by (repeat' (first | exact rfl | exact AvIs.refl _ | exact trivial | exact fun _ _ => rfl | exact fun _ _ => ⟨rfl, AvIs.refl _⟩ | refine ⟨?_, ?_⟩))))
        · have h1 : al = true := by
            rw [show (i : Int).toNat = i from rfl, hX] at h1
            simpa using h1
          rw [if_pos h1] at hp
          (repeat (first | refine XK.norm rfl rfl ?_ | refine XK.rgnA hT rfl rfl rfl ?_ | refine XK.rgnB hT hm rfl rfl rfl ?_)); refine XK.cond rfl (fun h3 => ?_) (fun h3 => ?_) <;> (try simp at h3)
          · have hro : 0 ≤ (clAt k i).role ∧ (clAt k i).role < k.holders.length := by
              rcases hkf with h | h
              · exact absurd h.1 h3
              · exact h.1
            have e : liveM k w2.hold i = ⟨1, (clAt k i).after, 0, hs.getD (clAt k i).role.toNat default, false⟩ := by
              unfold liveM; rw [if_pos h3, hph]
            rw [e] at hp
            rw [← hh] at hro
            (repeat (first | refine XK.norm rfl rfl ?_ | refine XK.rgnA hT rfl rfl rfl ?_ | refine XK.rgnB hT hm rfl rfl rfl ?_))
            refine XK.inv ⟨i + 1, hlt, ?_, by omega⟩
            rw [hp]
            exact (Weak.of hN rfl rfl rfl (by (repeat' (first | exact rfl | exact AvIs.refl _ | exact trivial | exact fun _ _ => rfl | exact fun _ _ => ⟨rfl, AvIs.refl _⟩ | refine ⟨?_, ?_⟩))) (by (repeat' (first | exact rfl | exact AvIs.refl _ | exact trivial | exact fun _ _ => rfl | exact fun _ _ => ⟨rfl, AvIs.refl _⟩ | exact fun _ hi => absurd hi (Nat.not_lt_zero _) | (intro i hi; cases Nat.lt_one_iff.1 hi; rfl) | (intro j hj; by_cases hji : j = (i); (· subst hji; simp [setRowF, setL, mkC, Wk.upM]; done); (· simp [setRowF, beq_false hji, Wk.upM, hji, lt_succ_ne hji]; done)) | refine ⟨?_, ?_⟩))))
          · have e : liveM k w2.hold i = ⟨1, (clAt k i).after, 0, -1, false⟩ := by
              unfold liveM; rw [if_neg (by simpa using h3)]
            rw [e] at hp
            (repeat (first | refine XK.norm rfl rfl ?_ | refine XK.rgnA hT rfl rfl rfl ?_ | refine XK.rgnB hT hm rfl rfl rfl ?_))
            refine XK.inv ⟨i + 1, hlt, ?_, by omega⟩
            rw [hp]
            exact (Weak.of hN rfl rfl rfl (by (repeat' (first | exact rfl | exact AvIs.refl _ | exact trivial | exact fun _ _ => rfl | exact fun _ _ => ⟨rfl, AvIs.refl _⟩ | refine ⟨?_, ?_⟩))) (by (repeat' (first | exact rfl | exact AvIs.refl _ | exact trivial | exact fun _ _ => rfl | exact fun _ _ => ⟨rfl, AvIs.refl _⟩ | exact fun _ hi => absurd hi (Nat.not_lt_zero _) | (intro i hi; cases Nat.lt_one_iff.1 hi; rfl) | (intro j hj; by_cases hji : j = (i); (· subst hji; simp [setRowF, setL, mkC, Wk.upM]; done); (· simp [setRowF, beq_false hji, Wk.upM, hji, lt_succ_ne hji]; done)) | refine ⟨?_, ?_⟩))))
    · have hie : i = k.clauses.length := by omega
      subst hie
      have hl := fun h => pass_less (k := k) (w := w1) k.clauses.length (Nat.le_refl _) h
      have hn := fun h => pass_none (k := k) (w := w1) k.clauses.length h
      have hph : ∀ j, (passTo k w1 k.clauses.length).1.hold j = hs.getD j default := fun j => by rw [pass_hold (Nat.le_refl _)]; exact g0 j
      rw [startN] at g1
      generalize passTo k w1 k.clauses.length = p at *
      obtain ⟨w2, b2⟩ := p
      dsimp only at hl hn g1 hph
      dsimp only
      (repeat (first | refine XK.norm rfl rfl ?_ | refine XK.rgnA hT rfl rfl rfl ?_ | refine XK.rgnB hT hm rfl rfl rfl ?_))
      refine XK.inv ⟨(f, w2, b2), ⟨hph, fun h => ?_, fun h => ?_⟩, (Weak.of hN rfl rfl rfl (by (repeat' (first | exact rfl | exact AvIs.refl _ | exact trivial | exact fun _ _ => rfl | exact fun _ _ => ⟨rfl, AvIs.refl _⟩ | refine ⟨?_, ?_⟩))) (by (repeat' (first | exact rfl | exact AvIs.refl _ | exact trivial | exact fun _ _ => rfl | exact fun _ _ => ⟨rfl, AvIs.refl _⟩ | refine ⟨?_, ?_⟩)))), ?_⟩
      · have h : b2 = true := h
        rw [if_pos h] at g1
        have := hl h
        exact ⟨g1, by show idleN k w2.mark < f; omega⟩
      · have h : b2 = false := h
        rw [if_neg (by rw [h]; simp)] at g1
        have := congrArg Prod.fst (hn h).1
        show w2 = _
        rw [← g1]
        exact this
      · dsimp only
        cases b2 <;> simp
  · have hb : b = false := hb
    subst hb
    have g2 := g2 rfl
    subst g2
    (repeat (first | refine XK.norm rfl rfl ?_ | refine XK.rgnA hT rfl rfl rfl ?_ | refine XK.rgnB hT hm rfl rfl rfl ?_))
    (first | refine XK.outR [0] hN rfl rfl rfl ?_ rfl rfl ?_ | refine XK.outRN [0] hN rfl rfl rfl ?_ rfl rfl ?_)
    · (repeat' (first | exact rfl | exact AvIs.refl _ | exact trivial | exact fun _ _ => rfl | exact fun _ _ => ⟨rfl, AvIs.refl _⟩ | refine ⟨?_, ?_⟩))
    · (repeat' (first | exact rfl | exact AvIs.refl _ | exact trivial | exact fun _ _ => rfl | exact fun _ _ => ⟨rfl, AvIs.refl _⟩ | refine ⟨?_, ?_⟩))
end Go.Proofs.YtofdehlikigonaaGreat
end
