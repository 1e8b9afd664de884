import Derived.Test.YtbheoblmfjjaaaaT4
section
/- Portfolios: spread. -/
namespace Go.Proofs.Ytbheoblmfjjaaaa
open Go.Eng
set_option maxRecDepth 10000
set_option linter.unusedSimpArgs false
set_option linter.unusedVariables false
/-- The parties that default, if those of a set do; the first error. -/
def nextD (p : Pf) (d : Nat → Bool) (j : Nat) : Bool := decide ((j : Int) < p.parties) && decide (0 < cmpR (owedR p j d).1 (p.assets.getD j default))
def errT (p : Pf) (d : Nat → Bool) : Nat → Int
  | 0 => 0
  | j + 1 => if errT p d j ≠ 0 then errT p d j else (owedR p j d).2
theorem errT_stop {p : Pf} {d : Nat → Bool} {i : Nat} (h : errT p d i ≠ 0) : ∀ m, i ≤ m → errT p d m = errT p d i := by
  intro m hm
  induction m with
  | zero => have : i = 0 := by omega
            rw [this]
  | succ m ih =>
    by_cases h1 : i = m + 1
    · rw [h1]
    · have h2 := ih (by omega)
      rw [errT, if_pos (by rw [h2]; exact h), h2]
def errA (p : Pf) (d : Nat → Bool) : Int := errT p d p.parties.toNat
def eq12 (a b : Nat → Bool) : Bool := a 0 == b 0 && (a 1 == b 1 && (a 2 == b 2 && (a 3 == b 3 && (a 4 == b 4 && (a 5 == b 5 && (a 6 == b 6 && (a 7 == b 7 && (a 8 == b 8 && (a 9 == b 9 && (a 10 == b 10 && a 11 == b 11))))))))))
def spreadG (p : Pf) : Nat → (Nat → Bool) → (Nat → Bool) × Int
  | 0, d => (d, 0)
  | n + 1, d => if errA p d ≠ 0 then (fun _ => false, errA p d) else if eq12 (nextD p d) d = true then (d, 0) else spreadG p n (nextD p d)
def sprR (p : Pf) : (Nat → Bool) × Int := spreadG p 13 (fun _ => false)
theorem spread_ok (p : Pf) (hp : pfW p) (ht : tsIn p) (hg : gsIn p) (hP : 1 ≤ p.parties ∧ p.parties ≤ 12) (hA : (p.assets.length : Int) = p.parties) (Inv : Nat → (Nat → Bool) → Prop)
    (h0 : Inv 13 (fun _ => false)) (hstep : ∀ n d, Inv n d → 0 < n ∧ (errA p d = 0 → eq12 (nextD p d) d = false → Inv (n - 1) (nextD p d))) :
    Does Try.prog 51 [pfV p] (.tup [setV (sprR p).1, .junk, .c (.int .i64 (sprR p).2)]) := by
  refine Does.mk (fun _ => false) TT_ok Try.func51 rfl (by kernel_rfl) Try.ntmps51 rfl rfl fun E hT hE hN hR => ?_
  have hm : E.P.follows .mixedOrders = true := by rw [hE]; kernel_rfl
  have hPn : (p.parties.toNat : Int) = p.parties := by omega
  generalize hPP : p.parties.toNat = P at *
  (repeat (first | refine XK.norm rfl rfl ?_ | refine XK.rgnA hT rfl rfl rfl ?_ | refine XK.rgnB hT hm rfl rfl rfl ?_))
  refine XK.loop (ι := Nat × (Nat → Bool) × (Value → Bool) × (Value → Int)) (fun x => ST.of [(1, .ptr 1 0), (2, .vptr 2 0 1 0 0), (3, .c (.map none)), (4, .c (.int .i64 0)), (5, .vptr 78 0 1 0 0), (6, .mp 161), (7, .c (.int .i64 (14 - x.1)))]
      [(1, .cells 27 (pfC p)), (2, setO (fun _ => false)), (78, setO x.2.1), (161, .mapb (.int .i64) (.int .i64 0) x.2.2.1 (fun v => .c (.int .i64 (x.2.2.2 v))))] 1000 73 (fun _ => false))
    (fun x => x.1 ≤ 13 ∧ sprR p = spreadG p x.1 x.2.1 ∧ Inv x.1 x.2.1) (fun x => x.1) (13, fun _ => false, fun _ => false, fun _ => 0) ⟨Nat.le_refl _, rfl, h0⟩
    (Weak.of hN rfl rfl rfl (by (repeat' (first | exact rfl | exact AvIs.refl _ | exact trivial | exact fun _ _ => rfl | exact fun _ _ => ⟨rfl, AvIs.refl _⟩ | refine ⟨?_, ?_⟩))) ⟨by (repeat' (first | exact rfl | exact AvIs.refl _ | exact trivial | exact fun _ _ => rfl | exact fun _ _ => ⟨rfl, AvIs.refl _⟩ | refine ⟨?_, ?_⟩)), ⟨⟨rfl, rfl, rfl⟩, rfl, fun j hj => setRow (fun _ => false) j hj⟩, ⟨⟨rfl, rfl, rfl⟩, rfl, fun j hj => setRow (fun _ => false) j hj⟩, ⟨rfl, rfl, fun z hz => ⟨rfl, rfl⟩⟩⟩) fun x hx => ?_
  obtain ⟨n, d, dm, g⟩ := x
  obtain ⟨x1, x2, x3⟩ := hx
  dsimp only at x1 x2 x3
  obtain ⟨hn0, hst⟩ := hstep n d x3
  obtain ⟨n, rfl⟩ : ∃ m, n = m + 1 := ⟨n - 1, by omega⟩
  have hG : spreadG p (n + 1) d = if errA p d ≠ 0 then (fun _ => false, errA p d) else if eq12 (nextD p d) d = true then (d, 0) else spreadG p n (nextD p d) := rfl
  have hEA : errA p d = errT p d P := by unfold errA; rw [hPP]
  dsimp only
  (repeat (first | refine XK.norm rfl rfl ?_ | refine XK.rgnA hT rfl rfl rfl ?_ | refine XK.rgnB hT hm rfl rfl rfl ?_))
  refine XK.loop (ι := Nat) (fun j => ST.of [(1, .ptr 1 0), (2, .vptr 2 0 1 0 0), (3, .c (.map none)), (4, .c (.int .i64 0)), (5, .vptr 78 0 1 0 0), (6, .mp 161), (7, .c (.int .i64 (14 - (n + 1 : Nat)))), (8, .vptr 1008 0 1 0 0), (19, .c (.int .i64 p.parties)), (20, .c (.int .i64 j))]
      [(1, .cells 27 (pfC p)), (2, setO (fun _ => false)), (78, setO d), (161, .mapb (.int .i64) (.int .i64 0) dm (fun v => .c (.int .i64 (g v)))), (1008, setO (fun i => decide (i < j) && nextD p d i))] 2000 73 (fun _ => false))
    (fun j => j ≤ P ∧ errT p d j = 0) (fun j => P - j) 0 ⟨Nat.zero_le _, rfl⟩
    (Weak.of hN rfl rfl rfl (by (repeat' (first | exact rfl | exact AvIs.refl _ | exact trivial | exact fun _ _ => rfl | exact fun _ _ => ⟨rfl, AvIs.refl _⟩ | refine ⟨?_, ?_⟩))) ⟨by (repeat' (first | exact rfl | exact AvIs.refl _ | exact trivial | exact fun _ _ => rfl | exact fun _ _ => ⟨rfl, AvIs.refl _⟩ | refine ⟨?_, ?_⟩)), by (repeat' (first | exact rfl | exact AvIs.refl _ | exact trivial | exact fun _ _ => rfl | exact fun _ _ => ⟨rfl, AvIs.refl _⟩ | refine ⟨?_, ?_⟩)), by (repeat' (first | exact rfl | exact AvIs.refl _ | exact trivial | exact fun _ _ => rfl | exact fun _ _ => ⟨rfl, AvIs.refl _⟩ | refine ⟨?_, ?_⟩)), by (repeat' (first | exact rfl | exact AvIs.refl _ | exact trivial | exact fun _ _ => rfl | exact fun _ _ => ⟨rfl, AvIs.refl _⟩ | refine ⟨?_, ?_⟩)), ⟨⟨rfl, rfl, rfl⟩, rfl, fun j hj => ?_⟩⟩) fun j hj => ?_
  · have e : (decide (j < 0) && nextD p d j) = false := by simp
    show [AV.c (.bool (decide (j < 0) && nextD p d j))] = _
    rw [e]
    exact setRow (fun _ => false) j hj
  obtain ⟨hj1, hj2⟩ := hj
  (repeat (first | refine XK.norm rfl rfl ?_ | refine XK.rgnA hT rfl rfl rfl ?_ | refine XK.rgnB hT hm rfl rfl rfl ?_)); refine XK.cond rfl (fun hlt => ?_) (fun hlt => ?_) <;> (try simp at hlt)
  · have hErr : errT p d (j + 1) = (owedR p j d).2 := by rw [errT, if_neg (by simpa using hj2)]
    have hlast := fun h => errT_stop (p := p) (d := d) (i := j + 1) h P (by omega)
    have hX : nextD p d j = decide (0 < cmpR (owedR p j d).1 (p.assets.getD j default)) := by
      unfold nextD; rw [decide_eq_true (by omega), Bool.true_and]
    have ho := owed_ok p hp ht hg j d
    have how : qW (owedR p j d).1 := by
      unfold owedR
      split
      · simp [qW, inK]
      · exact owedT_W _
    have haw := hp.assets j (by omega)
    have fa : p.assets.getD (j : Int).toNat default = p.assets.getD j default := rfl
    generalize owedR p j d = o at *
    generalize p.assets.getD j default = a at *
    have hc := cmp_ok o.1 a how haw
    (repeat (first | refine XK.norm rfl rfl ?_ | refine XK.rgnA hT rfl rfl rfl ?_ | refine XK.rgnB hT hm rfl rfl rfl ?_))
    (repeat (first | refine XK.norm rfl rfl ?_ | refine XK.rgnA hT rfl rfl rfl ?_ | refine XK.rgnB hT hm rfl rfl rfl ?_)); refine XK.region ?_; refine XL.goA hT rfl rfl rfl rfl ?_
    refine XL.callLA hE rfl rfl rfl rfl trivial rfl (ho) rfl ?_
    refine XL.goA hT rfl rfl rfl rfl ?_; refine XL.fin ?_; (repeat (first | refine XK.norm rfl rfl ?_ | refine XK.rgnA hT rfl rfl rfl ?_ | refine XK.rgnB hT hm rfl rfl rfl ?_))
    (repeat (first | refine XK.norm rfl rfl ?_ | refine XK.rgnA hT rfl rfl rfl ?_ | refine XK.rgnB hT hm rfl rfl rfl ?_)); refine XK.cond rfl (fun h1 => ?_) (fun h1 => ?_) <;> (try simp at h1)
    · (repeat (first | refine XK.norm rfl rfl ?_ | refine XK.rgnA hT rfl rfl rfl ?_ | refine XK.rgnB hT hm rfl rfl rfl ?_))
      refine XK.weak (Weak.of (L := [(2, .vptr 2 0 1 0 0), (4, .c (.int .i64 o.2))]) (O := [(2, setO (fun _ => false))]) (nx := 4000) (nt := 73) (md := fun _ => false) hN rfl rfl rfl (by (repeat' (first | exact rfl | exact AvIs.refl _ | exact trivial | exact fun _ _ => rfl | exact fun _ _ => ⟨rfl, AvIs.refl _⟩ | refine ⟨?_, ?_⟩))) ⟨⟨rfl, rfl, rfl⟩, rfl, fun i hi => setRow (fun _ => false) i hi⟩) ?_
      (first | refine XK.outL rfl rfl rfl ?_ | refine XK.outLN rfl rfl rfl ?_)
      have hz := hlast (by rw [hErr]; exact h1)
      have hs : sprR p = (fun _ => false, o.2) := by rw [x2, hG, hEA, hz, hErr, if_pos h1]
      rw [hs]
      exact ⟨rfl, rfl, rfl⟩
    · (repeat (first | refine XK.norm rfl rfl ?_ | refine XK.rgnA hT rfl rfl rfl ?_ | refine XK.rgnB hT hm rfl rfl rfl ?_))
      (repeat (first | refine XK.norm rfl rfl ?_ | refine XK.rgnA hT rfl rfl rfl ?_ | refine XK.rgnB hT hm rfl rfl rfl ?_)); refine XK.drawn hm ?_; refine XD.goA hT rfl rfl rfl rfl ?_
      rw [fa]
      refine XD.callLA hE rfl rfl rfl rfl trivial rfl (hc) rfl ?_
      refine XD.goA hT rfl rfl rfl rfl ?_; refine XD.fin (by kernel_rfl) ?_; (repeat (first | refine XK.norm rfl rfl ?_ | refine XK.rgnA hT rfl rfl rfl ?_ | refine XK.rgnB hT hm rfl rfl rfl ?_))
      refine XK.inv ⟨j + 1, ⟨by omega, by rw [hErr]; exact h1⟩, Weak.of hN rfl rfl rfl (by (repeat' (first | exact rfl | exact AvIs.refl _ | exact trivial | exact fun _ _ => rfl | exact fun _ _ => ⟨rfl, AvIs.refl _⟩ | refine ⟨?_, ?_⟩))) ⟨by (repeat' (first | exact rfl | exact AvIs.refl _ | exact trivial | exact fun _ _ => rfl | exact fun _ _ => ⟨rfl, AvIs.refl _⟩ | refine ⟨?_, ?_⟩)), by (repeat' (first | exact rfl | exact AvIs.refl _ | exact trivial | exact fun _ _ => rfl | exact fun _ _ => ⟨rfl, AvIs.refl _⟩ | refine ⟨?_, ?_⟩)), by (repeat' (first | exact rfl | exact AvIs.refl _ | exact trivial | exact fun _ _ => rfl | exact fun _ _ => ⟨rfl, AvIs.refl _⟩ | refine ⟨?_, ?_⟩)), by (repeat' (first | exact rfl | exact AvIs.refl _ | exact trivial | exact fun _ _ => rfl | exact fun _ _ => ⟨rfl, AvIs.refl _⟩ | refine ⟨?_, ?_⟩)), ⟨⟨rfl, rfl, rfl⟩, rfl, fun i hi => ?_⟩⟩, by omega⟩
      by_cases hij : i = j
      · subst hij
        simp [setRowF, setL, hX]
      · have : decide (i < j + 1) = decide (i < j) := by rw [decide_eq_decide]; omega
        simp [setRowF, beq_false hij, hij, this]
  · have hjP : j = P := by omega
    subst hjP
    refine XK.weak (Weak.of (L := [(1, .ptr 1 0), (2, .vptr 2 0 1 0 0), (3, .c (.map none)), (4, .c (.int .i64 0)), (5, .vptr 78 0 1 0 0), (6, .mp 161), (7, .c (.int .i64 (14 - (n + 1 : Nat)))), (8, .vptr 1008 0 1 0 0)])
      (O := [(1, .cells 27 (pfC p)), (2, setO (fun _ => false)), (78, setO d), (161, .mapb (.int .i64) (.int .i64 0) dm (fun v => .c (.int .i64 (g v)))), (1008, setO (nextD p d))]) (nx := 3000) (nt := 73) (md := fun _ => false) hN rfl rfl rfl (by (repeat' (first | exact rfl | exact AvIs.refl _ | exact trivial | exact fun _ _ => rfl | exact fun _ _ => ⟨rfl, AvIs.refl _⟩ | refine ⟨?_, ?_⟩))) ⟨by (repeat' (first | exact rfl | exact AvIs.refl _ | exact trivial | exact fun _ _ => rfl | exact fun _ _ => ⟨rfl, AvIs.refl _⟩ | refine ⟨?_, ?_⟩)), by (repeat' (first | exact rfl | exact AvIs.refl _ | exact trivial | exact fun _ _ => rfl | exact fun _ _ => ⟨rfl, AvIs.refl _⟩ | refine ⟨?_, ?_⟩)), by (repeat' (first | exact rfl | exact AvIs.refl _ | exact trivial | exact fun _ _ => rfl | exact fun _ _ => ⟨rfl, AvIs.refl _⟩ | refine ⟨?_, ?_⟩)), by (repeat' (first | exact rfl | exact AvIs.refl _ | exact trivial | exact fun _ _ => rfl | exact fun _ _ => ⟨rfl, AvIs.refl _⟩ | refine ⟨?_, ?_⟩)), ⟨⟨rfl, rfl, rfl⟩, rfl, fun i hi => ?_⟩⟩) ?_
    · show [AV.c (.bool (nextD p d i))] = [AV.c (.bool (decide (i < j) && nextD p d i))]
      unfold nextD
      by_cases hij : i < j
      · rw [decide_eq_true hij, Bool.true_and]
      · rw [decide_eq_false hij, decide_eq_false (by omega), Bool.false_and, Bool.false_and]
    rw [hEA, hj2] at hG hst
    rw [if_neg (by simp)] at hG
    have hst := hst rfl
    generalize nextD p d = d2 at *
    (repeat (first | refine XK.norm rfl rfl ?_ | refine XK.rgnA hT rfl rfl rfl ?_ | refine XK.rgnB hT hm rfl rfl rfl ?_))
    (repeat (first | refine XK.norm rfl rfl ?_ | refine XK.rgnA hT rfl rfl rfl ?_ | refine XK.rgnB hT hm rfl rfl rfl ?_)); refine XK.cond rfl (fun h2 => ?_) (fun h2 => ?_)
    · have h2 : eq12 d2 d = true := h2
      rw [if_pos h2] at hG
      (repeat (first | refine XK.norm rfl rfl ?_ | refine XK.rgnA hT rfl rfl rfl ?_ | refine XK.rgnB hT hm rfl rfl rfl ?_))
      refine XK.weak (Weak.of (L := [(2, .vptr 2 0 1 0 0), (4, .c (.int .i64 0))]) (O := [(2, setO d)]) (nx := 4000) (nt := 73) (md := fun _ => false) hN rfl rfl rfl (by (repeat' (first | exact rfl | exact AvIs.refl _ | exact trivial | exact fun _ _ => rfl | exact fun _ _ => ⟨rfl, AvIs.refl _⟩ | refine ⟨?_, ?_⟩))) ⟨⟨rfl, rfl, rfl⟩, rfl, fun i hi => setRow d i hi⟩) ?_
      (first | refine XK.outL rfl rfl rfl ?_ | refine XK.outLN rfl rfl rfl ?_)
      rw [x2, hG]
      exact ⟨rfl, rfl, rfl⟩
    · have h2 : eq12 d2 d = false := h2
      rw [if_neg (by rw [h2]; simp)] at hG
      (repeat (first | refine XK.norm rfl rfl ?_ | refine XK.rgnA hT rfl rfl rfl ?_ | refine XK.rgnB hT hm rfl rfl rfl ?_))
      refine XK.loop (ι := Nat × (Value → Bool) × (Value → Int)) (fun y => ST.of [(1, .ptr 1 0), (2, .vptr 2 0 1 0 0), (3, .c (.map none)), (4, .c (.int .i64 0)), (5, .vptr 78 0 1 0 0), (6, .mp 161), (7, .c (.int .i64 (14 - (n + 1 : Nat)))), (8, .vptr 1008 0 1 0 0), (51, .c (.int .i64 p.parties)), (52, .c (.int .i64 y.1))]
          [(1, .cells 27 (pfC p)), (2, setO (fun _ => false)), (78, setO d), (161, .mapb (.int .i64) (.int .i64 0) y.2.1 (fun v => .c (.int .i64 (y.2.2 v)))), (1008, setO d2)] 4000 73 (fun _ => false))
        (fun y => y.1 ≤ j) (fun y => j - y.1) (0, dm, g) (Nat.zero_le _) (Weak.of hN rfl rfl rfl (by (repeat' (first | exact rfl | exact AvIs.refl _ | exact trivial | exact fun _ _ => rfl | exact fun _ _ => ⟨rfl, AvIs.refl _⟩ | refine ⟨?_, ?_⟩))) (by (repeat' (first | exact rfl | exact AvIs.refl _ | exact trivial | exact fun _ _ => rfl | exact fun _ _ => ⟨rfl, AvIs.refl _⟩ | refine ⟨?_, ?_⟩)))) fun y hy => ?_
      obtain ⟨i, dm, g⟩ := y
      dsimp only at hy ⊢
      (repeat (first | refine XK.norm rfl rfl ?_ | refine XK.rgnA hT rfl rfl rfl ?_ | refine XK.rgnB hT hm rfl rfl rfl ?_)); refine XK.cond rfl (fun hlt2 => ?_) (fun hlt2 => ?_) <;> (try simp at hlt2)
      · (repeat (first | refine XK.norm rfl rfl ?_ | refine XK.rgnA hT rfl rfl rfl ?_ | refine XK.rgnB hT hm rfl rfl rfl ?_))
        (repeat (first | refine XK.norm rfl rfl ?_ | refine XK.rgnA hT rfl rfl rfl ?_ | refine XK.rgnB hT hm rfl rfl rfl ?_)); refine XK.cond rfl (fun h3 => ?_) (fun h3 => ?_)
        · (repeat (first | refine XK.norm rfl rfl ?_ | refine XK.rgnA hT rfl rfl rfl ?_ | refine XK.rgnB hT hm rfl rfl rfl ?_))
          refine XK.inv ⟨(i + 1, (fun u => keyEq u (.int .i64 i) || dm u), fun u => bif keyEq u (.int .i64 i) then 14 - (n + 1 : Nat) else g u), by dsimp only; omega, Weak.of hN rfl rfl rfl (by (repeat' (first | exact rfl | exact AvIs.refl _ | exact trivial | exact fun _ _ => rfl | exact fun _ _ => ⟨rfl, AvIs.refl _⟩ | refine ⟨?_, ?_⟩))) ⟨by (repeat' (first | exact rfl | exact AvIs.refl _ | exact trivial | exact fun _ _ => rfl | exact fun _ _ => ⟨rfl, AvIs.refl _⟩ | refine ⟨?_, ?_⟩)), by (repeat' (first | exact rfl | exact AvIs.refl _ | exact trivial | exact fun _ _ => rfl | exact fun _ _ => ⟨rfl, AvIs.refl _⟩ | refine ⟨?_, ?_⟩)), by (repeat' (first | exact rfl | exact AvIs.refl _ | exact trivial | exact fun _ _ => rfl | exact fun _ _ => ⟨rfl, AvIs.refl _⟩ | refine ⟨?_, ?_⟩)), ⟨rfl, rfl, fun z hz => ⟨rfl, ?_⟩⟩, by (repeat' (first | exact rfl | exact AvIs.refl _ | exact trivial | exact fun _ _ => rfl | exact fun _ _ => ⟨rfl, AvIs.refl _⟩ | refine ⟨?_, ?_⟩))⟩, by dsimp only; omega⟩
          show AvIs (bif keyEq z (.int .i64 i) then AV.c (.int .i64 (14 - (n + 1 : Nat))) else .c (.int .i64 (g z))) (.c (.int .i64 (bif keyEq z (.int .i64 i) then 14 - (n + 1 : Nat) else g z)))
          cases keyEq z (.int .i64 i) <;> rfl
        · (repeat (first | refine XK.norm rfl rfl ?_ | refine XK.rgnA hT rfl rfl rfl ?_ | refine XK.rgnB hT hm rfl rfl rfl ?_))
          refine XK.inv ⟨(i + 1, dm, g), by dsimp only; omega, (Weak.of hN rfl rfl rfl (by (repeat' (first | exact rfl | exact AvIs.refl _ | exact trivial | exact fun _ _ => rfl | exact fun _ _ => ⟨rfl, AvIs.refl _⟩ | refine ⟨?_, ?_⟩))) (by (repeat' (first | exact rfl | exact AvIs.refl _ | exact trivial | exact fun _ _ => rfl | exact fun _ _ => ⟨rfl, AvIs.refl _⟩ | refine ⟨?_, ?_⟩)))), by dsimp only; omega⟩
      · (repeat (first | refine XK.norm rfl rfl ?_ | refine XK.rgnA hT rfl rfl rfl ?_ | refine XK.rgnB hT hm rfl rfl rfl ?_))
        refine XK.inv ⟨(n, d2, dm, g), ⟨by dsimp only; omega, by dsimp only; rw [x2, hG], hst h2⟩, Weak.of hN rfl rfl rfl ⟨rfl, rfl, rfl, rfl, rfl, rfl, cI (by dsimp only; omega)⟩ ⟨by (repeat' (first | exact rfl | exact AvIs.refl _ | exact trivial | exact fun _ _ => rfl | exact fun _ _ => ⟨rfl, AvIs.refl _⟩ | refine ⟨?_, ?_⟩)), by (repeat' (first | exact rfl | exact AvIs.refl _ | exact trivial | exact fun _ _ => rfl | exact fun _ _ => ⟨rfl, AvIs.refl _⟩ | refine ⟨?_, ?_⟩)), ⟨⟨rfl, rfl, rfl⟩, rfl, fun i hi => setRow d2 i hi⟩, by (repeat' (first | exact rfl | exact AvIs.refl _ | exact trivial | exact fun _ _ => rfl | exact fun _ _ => ⟨rfl, AvIs.refl _⟩ | refine ⟨?_, ?_⟩))⟩, by dsimp only; omega⟩
end Go.Proofs.Ytbheoblmfjjaaaa
end
section
/- An array of the call's own that is read only from here on. -/
namespace Go.Proofs.Ytbheoblmfjjaaaa
open Go.Eng
set_option maxRecDepth 10000
set_option linter.unusedSimpArgs false
set_option linter.unusedVariables false
def frozenAG (k s : Nat) (l : List AV) : AV → AV
  | .vec j s' => bif Nat.beq j k then .junk else .vec j s'
  | .vptr j s' sz i off => bif Nat.beq j k then (bif Nat.beq s' s && (Nat.beq i 0 && Nat.beq off 0) then .rptr l else .junk) else .vptr j s' sz i off
  | .ptr j off => .ptr j off
  | x => x
def ST.frozenA (st : ST) (k s : Nat) (l : List AV) : ST := { st with fr := fun j => (st.fr j).map (frozenAG k s l), ob := upd (fun j => (st.ob j).map (Ob.map (frozenAG k s l))) k none }
theorem Weak.frozenA {E : Env} {st : ST} {k e sz s n m : Nat} {f : Nat → List AV} (l : List AV) (hN : E.N = m) (hk : st.ob k = some (.vec e sz s n f)) (hs : Nat.ble m k = true) (hl : ∀ i x, l[i]? = some x → ∃ a b, a < n ∧ b < sz ∧ i = a * sz + b ∧ (f a)[b]? = some x) : Weak E st (ST.frozenA st k s l) := by
  refine Sub.weak ?_
  intro a w ρ h
  obtain ⟨hv, xs, hg, hown, hf, hr⟩ := h.ob k _ hk
  have hsub : ∀ j x b, upd ρ k none j = some x → x.block = some b → j ≠ k ∧ ρ j = some x := by
    intro j x b hj hb
    by_cases hjk : j = k
    · subst hjk; rw [upd_same] at hj; cases hj
    · rw [upd_other _ _ hjk] at hj; exact ⟨hjk, hj⟩
  have hG : ∀ b, E.good w ρ b → E.good w (upd ρ k none) b := fun b ⟨h0, hlt, hno⟩ => ⟨h0, hlt, fun j y hj hy => hno j y (hsub j y b hj hy).2 hy⟩
  have leaf : ∀ x v, x.isName = true → R w (E.good w ρ) ρ x v → R w (E.good w (upd ρ k none)) (upd ρ k none) (frozenAG k s l x) v := by
    intro x v hx hxv
    cases hxv with
    | ptr hj =>
      refine .ptr ((upd_other _ _ fun e => ?_).trans hj)
      subst e
      rw [hg] at hj; injection hj with hj; cases hj
    | mp hj =>
      refine .mp ((upd_other _ _ fun e => ?_).trans hj)
      subst e
      rw [hg] at hj; injection hj with hj; cases hj
    | @vptr _ j s' sz' i off g n' cap hj hi =>
      simp only [frozenAG]
      cases hb : Nat.beq j k with
      | false => exact .vptr ((upd_other _ _ fun e => by subst e; simp at hb).trans hj) hi
      | true =>
        have := Nat.eq_of_beq_eq_true hb
        subst this
        rw [hg] at hj
        injection hj with hj
        injection hj with h1 h2
        subst h1 h2
        simp only [cond_true]
        cases hb2 : Nat.beq s s && (Nat.beq i 0 && Nat.beq off 0) with
        | false => exact .junk
        | true =>
          simp only [Bool.and_eq_true] at hb2
          have e1 := Nat.eq_of_beq_eq_true hb2.2.1
          have e2 := Nat.eq_of_beq_eq_true hb2.2.2
          subst e1 e2
          simp only [cond_true]
          obtain ⟨hxl, hcase⟩ := hown
          rcases hcase with ⟨h3, _⟩ | ⟨g', cap', cur, h3, _, hh, hnc, hm, hsz, htake⟩
          · cases h3
          injection h3 with h4 h5 h6
          injection h4 with h4
          injection h4 with h4
          subst h4 h5 h6
          have hidx : ∀ i, i < l.length → i < n' * sz := fun i hi => by
            obtain ⟨a, b, h1, h2, h3, _⟩ := hl i _ (List.getElem?_eq_getElem hi)
            have : (a + 1) * sz ≤ n' * sz := Nat.mul_le_mul_right sz h1
            rw [Nat.add_mul] at this; omega
          refine .rptr (fun i => xs.getD i undef) ⟨?_, ?_, ?_⟩ (fun i hi => ?_) (fun i x hx => ?_)
          · exact .inr (h.own j _ g hg rfl)
          · exact h.lt hg rfl
          · intro j' y hj' hy
            obtain ⟨hne, hj2⟩ := hsub j' y g hj' hy
            exact hne (h.dis j' j y _ g hj2 hg hy rfl)
          · have hlt := hidx i hi
            have hlc : i < cur.size := by
              have := Nat.mul_le_mul_right sz hnc
              omega
            have hv : xs.getD i undef = cur[i] := by
              rw [← htake]
              simp [List.getD, hlt, hlc]
            rw [hv]
            rw [Addr.add_lit]
            simp [World.cell?, hh, hlc]
          · obtain ⟨a, b, h1, h2, rfl, h4⟩ := hl i x hx
            exact (hr a b x h1 h4).tr (fun b hb => ⟨hG b hb, rfl⟩) _ (Le.refl _)
    | @vptrOld _ j s1 s2 sz' i off hv' v' hj hlt =>
      simp only [frozenAG]
      cases hb : Nat.beq j k with
      | false => exact .vptrOld ((upd_other _ _ fun e => by subst e; simp at hb).trans hj) hlt
      | true =>
        have := Nat.eq_of_beq_eq_true hb
        subst this
        rw [hg] at hj
        injection hj with hj
        injection hj with h1 h2
        subst h1
        simp only [cond_true]
        cases hb2 : Nat.beq s1 s with
        | true => have := Nat.eq_of_beq_eq_true hb2; omega
        | false => exact .junk
    | @vec _ j s' hv' hj =>
      simp only [frozenAG]
      cases hb : Nat.beq j k with
      | false => exact .vec ((upd_other _ _ fun e => by subst e; simp at hb).trans hj)
      | true => exact .junk
    | @vecOld _ j s1 s2 hv' v' hj hlt =>
      simp only [frozenAG]
      cases hb : Nat.beq j k with
      | false => exact .vecOld ((upd_other _ _ fun e => by subst e; simp at hb).trans hj) hlt
      | true => exact .junk
    | junk => cases hx
    | c => cases hx
    | agg => cases hx
    | tup => cases hx
    | rptr => cases hx
    | rs => cases hx
    | fn => cases hx
    | gd => cases hx
  refine ⟨upd ρ k none, h.conv rfl (fun _ => rfl) leaf (fun j o hj => ?_) (fun j hj => ?_) (fun j x b hj hb => ⟨x, (hsub j x b hj hb).2, hb⟩) (fun j hj x hx => ?_), fun j x hj => ?_⟩
  · by_cases hjk : j = k
    · subst hjk; simp only [ST.frozenA, upd_same] at hj; cases hj
    · simp only [ST.frozenA, upd_other _ _ hjk, Option.map_eq_some_iff] at hj
      obtain ⟨o', ho', rfl⟩ := hj
      exact (h.ob j o' ho').map hG leaf (upd_other _ _ hjk)
  · by_cases hjk : j = k
    · subst hjk; rw [upd_same]
    · simp only [ST.frozenA, upd_other _ _ hjk, Option.map_eq_none_iff] at hj
      rw [upd_other _ _ hjk]; exact h.no j hj
  · have : j ≠ k := fun e => by
      subst e
      have := Nat.le_of_ble_eq_true hs
      omega
    rw [upd_other _ _ this]; exact h.le j hj x hx
  · by_cases hjk : j = k
    · subst hjk; rw [upd_same] at hj; cases hj
    · rw [upd_other _ _ hjk] at hj; exact hj
end Go.Proofs.Ytbheoblmfjjaaaa
end
section
/- Portfolios: Defaults; the law's small functions. -/
namespace Go.Proofs.Ytbheoblmfjjaaaa
open Go.Eng
set_option maxRecDepth 10000
set_option linter.unusedSimpArgs false
set_option linter.unusedVariables false
def blsV (n : Nat) (f : Nat → Bool) : AV := .rs 1 n (fun i => [.c (.bool (f i))])
theorem cloneB_ok (n : Nat) (f : Nat → Bool) (h0 : 0 < n) (hn : n ≤ 1000000) : DoesM Try.prog 52 [blsV n f] [] (.vec 0 0) [.vec 4 1 0 n (fun i => [.c (.bool (f i))])] := by
  refine DoesM.mk (fun d => Nat.beq d 5) 100 TT_ok Try.func52 rfl (by kernel_rfl) Try.ntmps52 rfl rfl rfl fun E hT hE hN hR => ?_
  have hm : E.P.follows .mixedOrders = true := by rw [hE]; kernel_rfl
  (repeat (first | refine XK.norm rfl rfl ?_ | refine XK.rgnA hT rfl rfl rfl ?_ | refine XK.rgnB hT hm rfl rfl rfl ?_)); refine XK.cond rfl (fun h1 => ?_) (fun h1 => ?_)
  · cases h1
  · (repeat (first | refine XK.norm rfl rfl ?_ | refine XK.rgnA hT rfl rfl rfl ?_ | refine XK.rgnB hT hm rfl rfl rfl ?_))
    refine XK.weak (Weak.trans (Weak.stamp (k := 121) (t := 0) hN rfl rfl) (Weak.of (L := [(2, .vec 121 0)]) (O := [(121, .vec 4 1 0 n (fun i => [.c (.bool (f i))]))]) (nx := 1000) (nt := 8) (md := fun _ => false) hN rfl rfl rfl (by (repeat' (first | exact rfl | exact AvIs.refl _ | exact trivial | exact fun _ _ => rfl | exact fun _ _ => ⟨rfl, AvIs.refl _⟩ | refine ⟨?_, ?_⟩))) ⟨⟨rfl, rfl, rfl⟩, Nat.zero_add _, fun j hj => by rcases j with _ | j <;> rfl⟩)) ?_
    (first | refine XK.outR [121] hN rfl rfl rfl ?_ rfl rfl ?_ | refine XK.outRN [121] hN rfl rfl rfl ?_ rfl rfl ?_)
    · (repeat' (first | exact rfl | exact AvIs.refl _ | exact trivial | exact fun _ _ => rfl | exact fun _ _ => ⟨rfl, AvIs.refl _⟩ | refine ⟨?_, ?_⟩))
    · (repeat' (first | exact rfl | exact AvIs.refl _ | exact trivial | exact fun _ _ => rfl | exact fun _ _ => ⟨rfl, AvIs.refl _⟩ | refine ⟨?_, ?_⟩))
theorem bools_ok (a b : Nat) (f g : Nat → Bool) : Does Try.prog 22 [blsV a f, blsV b g] (.c (.bool (a == b && (List.range a).all (fun i => f i == g i)))) := by
  refine Does.mk (fun _ => false) TT_ok Try.func22 rfl (by kernel_rfl) Try.ntmps22 rfl rfl fun E hT hE hN hR => ?_
  have hm : E.P.follows .mixedOrders = true := by rw [hE]; kernel_rfl
  refine XK.fact (Sat.rs_len (j := 0) rfl) fun hlen => ?_
  have hma : a ≤ 9223372036854775807 := hlen.1
  refine XK.fact (Sat.rs_len (j := 1) rfl) fun hlen2 => ?_
  have hmb : b ≤ 9223372036854775807 := hlen2.1
  (repeat (first | refine XK.norm rfl rfl ?_ | refine XK.rgnA hT rfl rfl rfl ?_ | refine XK.rgnB hT hm rfl rfl rfl ?_)); refine XK.cond rfl (fun h1 => ?_) (fun h1 => ?_) <;> (try simp at h1)
  · (repeat (first | refine XK.norm rfl rfl ?_ | refine XK.rgnA hT rfl rfl rfl ?_ | refine XK.rgnB hT hm rfl rfl rfl ?_))
    (first | refine XK.out rfl rfl rfl ?_ | refine XK.outN rfl rfl rfl ?_)
    rw [show (a == b) = false by simp; omega]
    rfl
  · have hab : a = b := by omega
    subst hab
    (repeat (first | refine XK.norm rfl rfl ?_ | refine XK.rgnA hT rfl rfl rfl ?_ | refine XK.rgnB hT hm rfl rfl rfl ?_))
    refine XK.loop (ι := Nat) (fun i => ST.of [(0, blsV a f), (1, blsV a g), (5, .c (.int .i64 i))] [] 1000 26 (fun _ => false))
      (fun i => i ≤ a ∧ ∀ j, j < i → f j = g j) (fun i => a - i) 0 ⟨Nat.zero_le _, fun j hj => absurd hj (Nat.not_lt_zero _)⟩ (Weak.of hN rfl rfl rfl (by (repeat' (first | exact rfl | exact AvIs.refl _ | exact trivial | exact fun _ _ => rfl | exact fun _ _ => ⟨rfl, AvIs.refl _⟩ | refine ⟨?_, ?_⟩))) (by (repeat' (first | exact rfl | exact AvIs.refl _ | exact trivial | exact fun _ _ => rfl | exact fun _ _ => ⟨rfl, AvIs.refl _⟩ | refine ⟨?_, ?_⟩)))) fun i hi => ?_
    obtain ⟨hi1, hi2⟩ := hi
    (repeat (first | refine XK.norm rfl rfl ?_ | refine XK.rgnA hT rfl rfl rfl ?_ | refine XK.rgnB hT hm rfl rfl rfl ?_)); refine XK.cond rfl (fun hlt => ?_) (fun hlt => ?_) <;> (try simp at hlt)
    · have f1 : f (i : Int).toNat = f i := rfl
      have f2 : g (i : Int).toNat = g i := rfl
      have hno : f i ≠ g i → (a == a && (List.range a).all (fun i => f i == g i)) = false := fun h => by
        rw [Bool.eq_false_iff]
        intro h2
        simp only [beq_self_eq_true, Bool.true_and, List.all_eq_true, List.mem_range, beq_iff_eq] at h2
        exact h (h2 i hlt)
      have hst : f i = g i → ∀ j, j < i + 1 → f j = g j := fun h j hj => by
        by_cases hji : j = i
        · subst hji; exact h
        · exact hi2 j (by omega)
      generalize f i = x at *
      generalize g i = y at *
      (repeat (first | refine XK.norm rfl rfl ?_ | refine XK.rgnA hT rfl rfl rfl ?_ | refine XK.rgnB hT hm rfl rfl rfl ?_))
      rw [f1, f2]
      (repeat (first | refine XK.norm rfl rfl ?_ | refine XK.rgnA hT rfl rfl rfl ?_ | refine XK.rgnB hT hm rfl rfl rfl ?_)); refine XK.cond rfl (fun h2 => ?_) (fun h2 => ?_)
      · (repeat (first | refine XK.norm rfl rfl ?_ | refine XK.rgnA hT rfl rfl rfl ?_ | refine XK.rgnB hT hm rfl rfl rfl ?_))
        (first | refine XK.out rfl rfl rfl ?_ | refine XK.outN rfl rfl rfl ?_)
        rw [hno (by simpa using h2)]
      · (repeat (first | refine XK.norm rfl rfl ?_ | refine XK.rgnA hT rfl rfl rfl ?_ | refine XK.rgnB hT hm rfl rfl rfl ?_))
        refine XK.inv ⟨i + 1, ⟨hlt, hst (by simpa using h2)⟩, (Weak.of hN rfl rfl rfl (by (repeat' (first | exact rfl | exact AvIs.refl _ | exact trivial | exact fun _ _ => rfl | exact fun _ _ => ⟨rfl, AvIs.refl _⟩ | refine ⟨?_, ?_⟩))) (by (repeat' (first | exact rfl | exact AvIs.refl _ | exact trivial | exact fun _ _ => rfl | exact fun _ _ => ⟨rfl, AvIs.refl _⟩ | refine ⟨?_, ?_⟩)))), by omega⟩
    · have hin : i = a := by omega
      subst hin
      (repeat (first | refine XK.norm rfl rfl ?_ | refine XK.rgnA hT rfl rfl rfl ?_ | refine XK.rgnB hT hm rfl rfl rfl ?_))
      (first | refine XK.out rfl rfl rfl ?_ | refine XK.outN rfl rfl rfl ?_)
      refine cB ?_
      symm
      simp only [beq_self_eq_true, Bool.true_and, List.all_eq_true, List.mem_range, beq_iff_eq]
      exact hi2
def fewB (p : Pf) (n : Int) : Bool := decide ((p.assets.length : Int) ≤ 20) && decide ((p.due.length : Int) ≤ n) && decide ((p.later.length : Int) ≤ n) && decide ((p.gs.length : Int) ≤ n) && decide ((p.ts.length : Int) ≤ n)
theorem few_ok (p : Pf) (n : Int) : Does Try.prog 16 [pfV p, .c (.int .i64 n)] (.c (.bool (fewB p n))) := by
  refine Does.mk (fun _ => false) TT_ok Try.func16 rfl (by kernel_rfl) Try.ntmps16 rfl rfl fun E hT hE hN hR => ?_
  have hm : E.P.follows .mixedOrders = true := by rw [hE]; kernel_rfl
  (repeat (first | refine XK.norm rfl rfl ?_ | refine XK.rgnA hT rfl rfl rfl ?_ | refine XK.rgnB hT hm rfl rfl rfl ?_))
  (first | refine XK.out rfl rfl rfl ?_ | refine XK.outN rfl rfl rfl ?_)
  rfl
theorem of_ok (n : Int) : Does Try.prog 20 [.c (.int .i64 n)] (qv (n, 1)) := by
  refine Does.mk (fun _ => false) TT_ok Try.func20 rfl (by kernel_rfl) Try.ntmps20 rfl rfl fun E hT hE hN hR => ?_
  have hm : E.P.follows .mixedOrders = true := by rw [hE]; kernel_rfl
  (repeat (first | refine XK.norm rfl rfl ?_ | refine XK.rgnA hT rfl rfl rfl ?_ | refine XK.rgnB hT hm rfl rfl rfl ?_))
  (first | refine XK.out rfl rfl rfl ?_ | refine XK.outN rfl rfl rfl ?_)
  rfl
def defR (p : Pf) : (Nat × (Nat → Bool)) × Int := if validP p = false then ((0, fun _ => false), 1) else if (sprR p).2 ≠ 0 then ((0, fun _ => false), (sprR p).2) else ((p.parties.toNat, (sprR p).1), 0)
theorem defaults_ok (p : Pf) (hp : pfW p) (hs : validP p = true → Does Try.prog 51 [pfV p] (.tup [setV (sprR p).1, .junk, .c (.int .i64 (sprR p).2)])) (hP : validP p = true → 1 ≤ p.parties ∧ p.parties ≤ 12) : Does Try.prog 21 [pfV p] (.tup [blsV (defR p).1.1 (defR p).1.2, .c (.int .i64 (defR p).2)]) := by
  refine Does.mk (fun _ => false) TT_ok Try.func21 rfl (by kernel_rfl) Try.ntmps21 rfl rfl fun E hT hE hN hR => ?_
  have hm : E.P.follows .mixedOrders = true := by rw [hE]; kernel_rfl
  have h0 := validP_ok p hp
  unfold defR
  (repeat (first | refine XK.norm rfl rfl ?_ | refine XK.rgnA hT rfl rfl rfl ?_ | refine XK.rgnB hT hm rfl rfl rfl ?_)); refine XK.region ?_; refine XL.goA hT rfl rfl rfl rfl ?_
  refine XL.callLA hE rfl rfl rfl rfl trivial rfl (h0) rfl ?_
  refine XL.goA hT rfl rfl rfl rfl ?_; refine XL.fin ?_; (repeat (first | refine XK.norm rfl rfl ?_ | refine XK.rgnA hT rfl rfl rfl ?_ | refine XK.rgnB hT hm rfl rfl rfl ?_))
  (repeat (first | refine XK.norm rfl rfl ?_ | refine XK.rgnA hT rfl rfl rfl ?_ | refine XK.rgnB hT hm rfl rfl rfl ?_)); refine XK.cond rfl (fun h1 => ?_) (fun h1 => ?_)
  · have h1 : validP p = false := by simpa using h1
    rw [if_pos h1]
    (repeat (first | refine XK.norm rfl rfl ?_ | refine XK.rgnA hT rfl rfl rfl ?_ | refine XK.rgnB hT hm rfl rfl rfl ?_))
    (first | refine XK.outL rfl rfl rfl ?_ | refine XK.outLN rfl rfl rfl ?_)
    exact ⟨⟨rfl, rfl⟩, rfl⟩
  · have h1 : validP p = true := by simpa using h1
    have hs := hs h1
    have hP := hP h1
    rw [if_neg (by rw [h1]; simp)]
    generalize sprR p = s at *
    (repeat (first | refine XK.norm rfl rfl ?_ | refine XK.rgnA hT rfl rfl rfl ?_ | refine XK.rgnB hT hm rfl rfl rfl ?_)); refine XK.region ?_; refine XL.goA hT rfl rfl rfl rfl ?_
    refine XL.callLA hE rfl rfl rfl rfl trivial rfl (hs) rfl ?_
    refine XL.goA hT rfl rfl rfl rfl ?_; refine XL.fin ?_; (repeat (first | refine XK.norm rfl rfl ?_ | refine XK.rgnA hT rfl rfl rfl ?_ | refine XK.rgnB hT hm rfl rfl rfl ?_))
    (repeat (first | refine XK.norm rfl rfl ?_ | refine XK.rgnA hT rfl rfl rfl ?_ | refine XK.rgnB hT hm rfl rfl rfl ?_)); refine XK.cond rfl (fun h2 => ?_) (fun h2 => ?_) <;> (try simp at h2)
    · rw [if_pos (by simpa using h2)]
      (repeat (first | refine XK.norm rfl rfl ?_ | refine XK.rgnA hT rfl rfl rfl ?_ | refine XK.rgnB hT hm rfl rfl rfl ?_))
      (first | refine XK.outL rfl rfl rfl ?_ | refine XK.outLN rfl rfl rfl ?_)
      exact ⟨⟨rfl, rfl⟩, rfl⟩
    · rw [if_neg (by simpa using h2)]
      refine XK.weak (Weak.trans (Weak.of (L := [(1, .ptr 1 0), (4, .vptr 50 0 1 0 0)]) (O := [(1, .cells 27 (pfC p)), (50, setO s.1)]) (nx := 1000) (nt := 23) (md := fun _ => false) hN rfl rfl rfl (by (repeat' (first | exact rfl | exact AvIs.refl _ | exact trivial | exact fun _ _ => rfl | exact fun _ _ => ⟨rfl, AvIs.refl _⟩ | refine ⟨?_, ?_⟩))) ⟨by (repeat' (first | exact rfl | exact AvIs.refl _ | exact trivial | exact fun _ _ => rfl | exact fun _ _ => ⟨rfl, AvIs.refl _⟩ | refine ⟨?_, ?_⟩)), ⟨rfl, rfl, rfl⟩, rfl, fun i hi => setRow s.1 i hi⟩)
        (Weak.frozenA (k := 50) [.c (.bool (s.1 0)), .c (.bool (s.1 1)), .c (.bool (s.1 2)), .c (.bool (s.1 3)), .c (.bool (s.1 4)), .c (.bool (s.1 5)), .c (.bool (s.1 6)), .c (.bool (s.1 7)), .c (.bool (s.1 8)), .c (.bool (s.1 9)), .c (.bool (s.1 10)), .c (.bool (s.1 11))] hN rfl rfl fun i x hx => ?_)) ?_
      · have hi : i < 12 := (List.getElem?_eq_some_iff.1 hx).1
        refine ⟨i, 0, hi, by decide, by omega, ?_⟩
        match i, hi, hx with
        | 0, _, hx => exact hx
        | 1, _, hx => exact hx
        | 2, _, hx => exact hx
        | 3, _, hx => exact hx
        | 4, _, hx => exact hx
        | 5, _, hx => exact hx
        | 6, _, hx => exact hx
        | 7, _, hx => exact hx
        | 8, _, hx => exact hx
        | 9, _, hx => exact hx
        | 10, _, hx => exact hx
        | 11, _, hx => exact hx
      have hc := cloneB_ok p.parties.toNat s.1 (by omega) (by omega)
      refine XK.weak (Weak.of (L := [(1, .ptr 1 0), (4, .rptr [.c (.bool (s.1 0)), .c (.bool (s.1 1)), .c (.bool (s.1 2)), .c (.bool (s.1 3)), .c (.bool (s.1 4)), .c (.bool (s.1 5)), .c (.bool (s.1 6)), .c (.bool (s.1 7)), .c (.bool (s.1 8)), .c (.bool (s.1 9)), .c (.bool (s.1 10)), .c (.bool (s.1 11))])]) (O := [(1, .cells 27 (pfC p))]) (nx := 2000) (nt := 23) (md := fun _ => false) hN rfl rfl rfl (by (repeat' (first | exact rfl | exact AvIs.refl _ | exact trivial | exact fun _ _ => rfl | exact fun _ _ => ⟨rfl, AvIs.refl _⟩ | refine ⟨?_, ?_⟩))) (by (repeat' (first | exact rfl | exact AvIs.refl _ | exact trivial | exact fun _ _ => rfl | exact fun _ _ => ⟨rfl, AvIs.refl _⟩ | refine ⟨?_, ?_⟩)))) ?_
      (repeat (first | refine XK.norm rfl rfl ?_ | refine XK.rgnA hT rfl rfl rfl ?_ | refine XK.rgnB hT hm rfl rfl rfl ?_)); refine XK.region ?_; refine XL.goA hT rfl rfl rfl rfl ?_
      refine XL.callM [700] hE rfl rfl rfl rfl trivial (hc) rfl ?_ rfl ?_ rfl rfl rfl ?_
      · exact ⟨rfl, rfl, fun i hi => setRow s.1 i (by omega)⟩
      · trivial
      refine XL.goA hT rfl rfl rfl rfl ?_; refine XL.fin ?_; (repeat (first | refine XK.norm rfl rfl ?_ | refine XK.rgnA hT rfl rfl rfl ?_ | refine XK.rgnB hT hm rfl rfl rfl ?_))
      refine XK.weak (Weak.frozen (k := 700) hN rfl rfl) ?_
      (first | refine XK.outL rfl rfl rfl ?_ | refine XK.outLN rfl rfl rfl ?_)
      exact ⟨⟨rfl, rfl, fun i hi => rfl⟩, rfl⟩
end Go.Proofs.Ytbheoblmfjjaaaa
end
section
/- The law's own functions: w21Turned; ratio.Div. -/
namespace Go.Proofs.Ytbheoblmfjjaaaa
open Go.Eng
set_option maxRecDepth 10000
set_option linter.unusedSimpArgs false
set_option linter.unusedVariables false
def divR (a b : Q) : Q × Int := if qOk a && qOk b then makeR (a.1 * b.2) (a.2 * b.1) else ((0, 0), 1)
theorem div1_ok (a b : Q) (ha : qOk a = true) (hb' : qOk b = true) : Does Try.prog 49 [.rptr [.c (.int .i64 a.1), .c (.int .i64 a.2)], .rptr [.c (.int .i64 b.1), .c (.int .i64 b.2)]] (qr (makeR (a.1 * b.2) (a.2 * b.1))) := by
  refine Does.mk (fun _ => false) TT_ok Try.func49 rfl (by kernel_rfl) Try.ntmps49 rfl rfl fun E hT hE hN hR => ?_
  have hm : E.P.follows .mixedOrders = true := by rw [hE]; kernel_rfl
  obtain ⟨⟨h1, h2⟩, h3⟩ := q_prod ha hb'
  obtain ⟨⟨h4, h5⟩, h6⟩ := q_prod hb' ha
  have e : a.2 * b.1 = b.1 * a.2 := Int.mul_comm _ _
  (repeat (first | refine XK.norm rfl rfl ?_ | refine XK.rgnA hT rfl rfl rfl ?_ | refine XK.rgnB hT hm rfl rfl rfl ?_))
  refine XK.region ?_
  refine XL.go hT rfl rfl rfl rfl ?_ ?_
  · rw [e]
    (simp only [AllP, List.append, List.nil_append, List.cons_append, inK, tdiv_nn, tmod_nn, Int.toNat_natCast]; omega)
  refine XL.callL hE rfl rfl rfl rfl trivial rfl (make_ok (a.1 * b.2) (a.2 * b.1) (by simp only [inK]; omega) (by rw [e]; simp only [inK]; omega)) ?_ rfl ?_
  · exact ⟨rfl, rfl⟩
  refine XL.goA hT rfl rfl rfl rfl ?_; refine XL.fin ?_; (repeat (first | refine XK.norm rfl rfl ?_ | refine XK.rgnA hT rfl rfl rfl ?_ | refine XK.rgnB hT hm rfl rfl rfl ?_))
  (repeat (first | refine XK.norm rfl rfl ?_ | refine XK.rgnA hT rfl rfl rfl ?_ | refine XK.rgnB hT hm rfl rfl rfl ?_))
  (first | refine XK.out rfl rfl rfl ?_ | refine XK.outN rfl rfl rfl ?_)
  rfl
theorem div_ok (a b : Q) (ha : qW a) (hb' : qW b) : Does Try.prog 19 [qv a, qv b] (qr (divR a b)) := by
  refine Does.mk (fun _ => false) TT_ok Try.func19 rfl (by kernel_rfl) Try.ntmps19 rfl rfl fun E hT hE hN hR => ?_
  have hm : E.P.follows .mixedOrders = true := by rw [hE]; kernel_rfl
  (repeat (first | refine XK.norm rfl rfl ?_ | refine XK.rgnA hT rfl rfl rfl ?_ | refine XK.rgnB hT hm rfl rfl rfl ?_)); refine XK.region ?_; refine XL.goA hT rfl rfl rfl rfl ?_
  refine XL.callL hE rfl rfl rfl rfl trivial rfl (checked_ok a b ha hb' _ _ _ _ (fun h1 h2 => div1_ok a b h1 h2)) ?_ rfl ?_
  · exact ⟨rfl, rfl, rfl⟩
  refine XL.goA hT rfl rfl rfl rfl ?_; refine XL.fin ?_; (repeat (first | refine XK.norm rfl rfl ?_ | refine XK.rgnA hT rfl rfl rfl ?_ | refine XK.rgnB hT hm rfl rfl rfl ?_))
  (repeat (first | refine XK.norm rfl rfl ?_ | refine XK.rgnA hT rfl rfl rfl ?_ | refine XK.rgnB hT hm rfl rfl rfl ?_))
  (first | refine XK.out rfl rfl rfl ?_ | refine XK.outN rfl rfl rfl ?_)
  rfl
def turnL (l : List Db) (t : Nat) : List Db := (List.range l.length).map (fun j => l.getD ((l.length - 1 - j + t) % l.length) default)
theorem turnL_len {l : List Db} {t : Nat} : (turnL l t).length = l.length := by simp [turnL]
theorem turnL_getD {l : List Db} {t j : Nat} (h : j < l.length) : (turnL l t).getD j default = l.getD ((l.length - 1 - j + t) % l.length) default := by simp [turnL, List.getD, h]
theorem turned_ok (l : List Db) (hl : l.length ≤ 1000000) (t : Nat) (ht : t ≤ 255) : Does Try.prog 18 [dbsL l, .c (.int .i64 t)] (dbsL (turnL l t)) := by
  refine Does.mk (fun _ => false) TT_ok Try.func18 rfl (by kernel_rfl) Try.ntmps18 rfl rfl fun E hT hE hN hR => ?_
  have hm : E.P.follows .mixedOrders = true := by rw [hE]; kernel_rfl
  (repeat (first | refine XK.norm rfl rfl ?_ | refine XK.rgnA hT rfl rfl rfl ?_ | refine XK.rgnB hT hm rfl rfl rfl ?_))
  refine XK.loop (ι := Nat) (fun j => ST.of [(0, dbsL l), (1, .c (.int .i64 t)), (5, .vec 700 0), (6, .c (.int .i64 ((l.length : Int) - 1 - j)))] [(700, .vec 42 4 0 j (fun k => dbC ((turnL l t).getD k default)))] 1000 27 (fun _ => false))
    (fun j => j ≤ l.length) (fun j => l.length - j) 0 (Nat.zero_le _)
    (Weak.trans (Weak.ghost (j := 5) (k := 700) (e := 42) (sz := 4) (f := fun k => dbC ((turnL l t).getD k default)) rfl rfl) (Weak.of hN rfl rfl rfl ⟨AvIs.refl _, rfl, rfl, cI (by omega)⟩ ⟨⟨rfl, rfl, rfl⟩, rfl, fun k hk => rfl⟩)) fun j hj => ?_
  (repeat (first | refine XK.norm rfl rfl ?_ | refine XK.rgnA hT rfl rfl rfl ?_ | refine XK.rgnB hT hm rfl rfl rfl ?_)); refine XK.cond rfl (fun hlt => ?_) (fun hlt => ?_) <;> (try simp at hlt)
  · have hjl : j < l.length := by omega
    have e : ((l.length : Int) - 1 - j + t).tmod l.length = (((l.length - 1 - j + t) % l.length : Nat) : Int) := by
      rw [show ((l.length : Int) - 1 - j + t) = ((l.length - 1 - j + t : Nat) : Int) by omega]
      rfl
    have hml : (l.length - 1 - j + t) % l.length < l.length := Nat.mod_lt _ (by omega)
    have hTl := turnL_getD (t := t) hjl
    generalize (l.length - 1 - j + t) % l.length = i at *
    have fi : l.getD (i : Int).toNat default = l.getD i default := rfl
    (repeat (first | refine XK.norm rfl rfl ?_ | refine XK.rgnA hT rfl rfl rfl ?_ | refine XK.rgnB hT hm rfl rfl rfl ?_))
    refine XK.inv ⟨j + 1, hjl, Weak.trans (Weak.stamp (k := 700) (t := 0) hN rfl rfl) (Weak.of hN rfl rfl rfl ⟨AvIs.refl _, rfl, rfl, cI (by omega)⟩ ⟨⟨rfl, rfl, rfl⟩, rfl, fun k hk => (catF_one (g := fun k => dbC ((turnL l t).getD k default)) ?_ (fun k hk => rfl) k hk).symm⟩), by omega⟩
    show rowOf (dbC (l.getD (((l.length : Int) - 1 - j + t).tmod l.length).toNat default)) 4 0 = dbC ((turnL l t).getD j default)
    rw [e, fi, ← hTl]
    rfl
  · have hjn : j = l.length := by omega
    subst hjn
    refine XK.weak (Weak.frozen (k := 700) hN rfl rfl) ?_
    (repeat (first | refine XK.norm rfl rfl ?_ | refine XK.rgnA hT rfl rfl rfl ?_ | refine XK.rgnB hT hm rfl rfl rfl ?_))
    (first | refine XK.outL rfl rfl rfl ?_ | refine XK.outLN rfl rfl rfl ?_)
    exact ⟨rfl, turnL_len.symm, fun i hi => rfl⟩
end Go.Proofs.Ytbheoblmfjjaaaa
end
