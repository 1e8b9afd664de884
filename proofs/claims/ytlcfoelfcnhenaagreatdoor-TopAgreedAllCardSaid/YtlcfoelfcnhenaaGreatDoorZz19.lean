import Derived.Test.YtlcfoelfcnhenaaGreatDoorZz14
import Derived.Test.YtlcfoelfcnhenaaGreatDoorZz18
set_option linter.unusedSimpArgs false
set_option linter.unusedVariables false
set_option maxRecDepth 10000
namespace Go.Proofs.YtlcfoelfcnhenaaGreatDoor
section
open Go.Eng
structure St where
  day : Int
  holders : List Int
  used : List Bool
  marks : List Mk
def mkC (m : Mk) : List AV := [.c (.int .i64 m.status), .c (.int .i64 m.left), .c (.int .i64 m.got), .c (.int .i64 m.bearer), .c (.bool m.paused)]
def stC (s : St) : List AV := [.c (.int .i64 s.day), intsV s.holders, boolsV s.used, rowL mkC 5 s.marks]
def stV (s : St) : AV := .agg (stC s)
def St.wk (s : St) : Wk := ⟨s.day, fun i => s.holders.getD i default, fun i => s.used.getD i default, fun i => s.marks.getD i default⟩
theorem running_ok (m : Mk) : Does Tryz.prog 125 [.agg (mkC m)] (.c (.bool (runsM m))) := by
  refine Does.mk (fun _ => false) TT_ok Tryz.func125 rfl (by kernel_rfl) Tryz.ntmps125 rfl rfl fun E hT hE hN hR => ?_
  have hm := mixO hE
  (repeat (first | refine XK.n ?_ | refine XK.a ?_ | refine XK.b ?_))
  (first | refine XK.o ?_ | refine XK.p ?_)
  rfl
theorem validRun_ok (k : K) (x : Cl) (m : Mk) : Does Tryz.prog 120 [kV k, .agg (clC x), .agg (mkC m)] (.c (.bool (runB k x m))) := by
  refine Does.mk (fun _ => false) TT_ok Tryz.func120 rfl (by kernel_rfl) Tryz.ntmps120 rfl rfl fun E hT hE hN hR => ?_
  have hm := mixO hE
  (repeat (first | refine XK.n ?_ | refine XK.a ?_ | refine XK.b ?_)); refine XK.cond rfl (fun h1 => ?_) (fun h1 => ?_)
  · (repeat (first | refine XK.n ?_ | refine XK.a ?_ | refine XK.b ?_))
    (first | refine XK.o ?_ | refine XK.p ?_)
    rw [runB, if_pos h1]
  · have h1 : ¬ (x.waived || decide (m.left < 1) || (m.paused && x.pause == -1)) = true := by simpa using h1
    (repeat (first | refine XK.n ?_ | refine XK.a ?_ | refine XK.b ?_)); refine XK.cond rfl (fun h2 => ?_) (fun h2 => ?_)
    · (repeat (first | refine XK.n ?_ | refine XK.a ?_ | refine XK.b ?_))
      (first | refine XK.o ?_ | refine XK.p ?_)
      rw [runB, if_neg h1, if_pos (by simpa [Bool.or_assoc] using h2)]
    · have h2 : ¬ (m.got != 0 && (x.kind != 1 || decide (m.got < 0) || decide (x.need ≤ m.got))) = true := by simpa [Bool.or_assoc] using h2
      (repeat (first | refine XK.n ?_ | refine XK.a ?_ | refine XK.b ?_)); refine XK.cond rfl (fun h3 => ?_) (fun h3 => ?_) <;> (try simp at h3)
      · (repeat (first | refine XK.n ?_ | refine XK.a ?_ | refine XK.b ?_))
        (first | refine XK.o ?_ | refine XK.p ?_)
        rw [runB, if_neg h1, if_neg h2, if_pos h3]
      · (repeat (first | refine XK.n ?_ | refine XK.a ?_ | refine XK.b ?_))
        (first | refine XK.o ?_ | refine XK.p ?_)
        rw [runB, if_neg h1, if_neg h2, if_neg h3]
theorem validMark_ok (k : K) (i : Nat) (hi : i < k.clauses.length) (m : Mk) : Does Tryz.prog 70 [kV k, .c (.int .i64 i), .agg (mkC m)] (.c (.bool (markB k i m))) := by
  refine Does.mk (fun _ => false) TT_ok Tryz.func70 rfl (by kernel_rfl) Tryz.ntmps70 rfl rfl fun E hT hE hN hR => ?_
  have hm := mixO hE
  have fc : k.clauses.getD (i : Int).toNat default = clAt k i := rfl
  have hv := validRun_ok k (clAt k i) m
  (repeat (first | refine XK.n ?_ | refine XK.a ?_ | refine XK.b ?_))
  rw [fc]
  unfold markB
  generalize clAt k i = x at *
  (repeat (first | refine XK.n ?_ | refine XK.a ?_ | refine XK.b ?_)); refine XK.cond rfl (fun h0 => ?_) (fun h0 => ?_) <;> (try simp at h0)
  · (repeat (first | refine XK.n ?_ | refine XK.a ?_ | refine XK.b ?_))
    (first | refine XK.o ?_ | refine XK.p ?_)
    rw [if_pos h0]
    unfold idleB
    cases x.waived <;> cases hp : m.paused <;> simp [hp, Bool.and_assoc]
  · rw [if_neg h0]
    (repeat (first | refine XK.n ?_ | refine XK.a ?_ | refine XK.b ?_)); refine XK.cond rfl (fun h1 => ?_) (fun h1 => ?_) <;> (try simp at h1)
    · rw [if_pos h1]
      (repeat (first | refine XK.n ?_ | refine XK.a ?_ | refine XK.b ?_)); refine XK.region ?_; refine XL.g ?_
      refine XL.callGA hE rfl rfl rfl rfl rfl rfl rfl rfl (hv) rfl ?_
      refine XL.g ?_; refine XL.fin ?_; (repeat (first | refine XK.n ?_ | refine XK.a ?_ | refine XK.b ?_))
      (first | refine XK.o ?_ | refine XK.p ?_)
      rfl
    · rw [if_neg h1]
      (repeat (first | refine XK.n ?_ | refine XK.a ?_ | refine XK.b ?_)); refine XK.cond rfl (fun h2 => ?_) (fun h2 => ?_) <;> (try simp at h2)
      · rw [if_pos h2]
        (repeat (first | refine XK.n ?_ | refine XK.a ?_ | refine XK.b ?_)); refine XK.region ?_; refine XL.g ?_
        refine XL.callGA hE rfl rfl rfl rfl rfl rfl rfl rfl (hv) rfl ?_
        refine XL.g ?_; refine XL.fin ?_; (repeat (first | refine XK.n ?_ | refine XK.a ?_ | refine XK.b ?_))
        (first | refine XK.o ?_ | refine XK.p ?_)
        rfl
      · rw [if_neg h2]
        (repeat (first | refine XK.n ?_ | refine XK.a ?_ | refine XK.b ?_)); refine XK.cond rfl (fun h3 => ?_) (fun h3 => ?_) <;> (try simp at h3)
        · rw [if_pos (.inl h3)]
          (repeat (first | refine XK.n ?_ | refine XK.a ?_ | refine XK.b ?_)); refine XK.cond rfl (fun h6 => ?_) (fun h6 => ?_) <;> (try simp at h6)
          · (repeat (first | refine XK.n ?_ | refine XK.a ?_ | refine XK.b ?_))
            (first | refine XK.o ?_ | refine XK.p ?_)
            rfl
          · exact absurd h3 h6
        · (repeat (first | refine XK.n ?_ | refine XK.a ?_ | refine XK.b ?_)); refine XK.cond rfl (fun h4 => ?_) (fun h4 => ?_) <;> (try simp at h4)
          · rw [if_pos (.inr (.inl h4))]
            (repeat (first | refine XK.n ?_ | refine XK.a ?_ | refine XK.b ?_)); refine XK.cond rfl (fun h6 => ?_) (fun h6 => ?_) <;> (try simp at h6)
            · (repeat (first | refine XK.n ?_ | refine XK.a ?_ | refine XK.b ?_))
              (first | refine XK.o ?_ | refine XK.p ?_)
              rfl
            · exact absurd h4 h6
          · (repeat (first | refine XK.n ?_ | refine XK.a ?_ | refine XK.b ?_)); refine XK.cond rfl (fun h5 => ?_) (fun h5 => ?_) <;> (try simp at h5)
            · rw [if_pos (.inr (.inr h5))]
              (repeat (first | refine XK.n ?_ | refine XK.a ?_ | refine XK.b ?_))
              (first | refine XK.o ?_ | refine XK.p ?_)
              rfl
            · rw [if_neg (by omega)]
              (repeat (first | refine XK.n ?_ | refine XK.a ?_ | refine XK.b ?_))
              (first | refine XK.o ?_ | refine XK.p ?_)
              rfl
def wHold (k : K) (w : Wk) : Ob := .vec 3 1 0 k.holders.length (fun i => [.c (.int .i64 (w.hold i))])
def wUsed (k : K) (w : Wk) : Ob := .vec 4 1 0 k.acts.length (fun i => [.c (.bool (w.used i))])
def wMark (k : K) (w : Wk) : Ob := .vec 106 5 0 k.clauses.length (fun i => mkC (w.mark i))
def wRows (k : K) (w : Wk) : List Ob := [wHold k w, wUsed k w, wMark k w]
def wRowsN (k : K) (w : Wk) : List (Nat × Ob) := [(0, wHold k w), (1, wUsed k w), (2, wMark k w)]
theorem sready_ok (k : K) (hk : KFacts k) (s : St) (hs : s.marks.length = k.clauses.length) (i : Nat) (hi : i < k.clauses.length) : Does Tryz.prog 69 [kV k, stV s, .c (.int .i64 i)] (.c (.bool (rdyB k s.wk.mark i))) := by
  refine Does.mk (fun _ => false) TT_ok Tryz.func69 rfl (by kernel_rfl) Tryz.ntmps69 rfl rfl fun E hT hE hN hR => ?_
  have hm := mixO hE
  have hx := hk.clW' hi
  have fc : k.clauses.getD (i : Int).toNat default = clAt k i := rfl
  have fm : s.marks.getD (i : Int).toNat default = s.wk.mark i := rfl
  have hc := fun j (hj : j < (clAt k i).start.length) => hk.cond hi (s := (clAt k i).start.getD j default) (by simp only [List.getD_eq_getElem?_getD, List.getElem?_eq_getElem hj, Option.getD_some]; exact List.getElem_mem hj)
  unfold rdyB
  (repeat (first | refine XK.n ?_ | refine XK.a ?_ | refine XK.b ?_))
  try rw [fc, fm]
  (repeat (first | refine XK.n ?_ | refine XK.a ?_ | refine XK.b ?_)); refine XK.cond rfl (fun h0 => ?_) (fun h0 => ?_)
  · rw [if_pos h0]
    (repeat (first | refine XK.n ?_ | refine XK.a ?_ | refine XK.b ?_))
    (first | refine XK.o ?_ | refine XK.p ?_)
    rfl
  · have h0 : ¬ ((s.wk.mark i).status != 0 || (clAt k i).waived) = true := by rw [h0]; simp
    rw [if_neg h0]
    (repeat (first | refine XK.n ?_ | refine XK.a ?_ | refine XK.b ?_))
    rw [fc]
    refine XK.fact (Sat.rs_len (j := 31) rfl) fun hlen => ?_
    have hm' : (clAt k i).start.length ≤ 9223372036854775807 := hlen.1
    refine XK.loop (ι := Nat) (fun j => ST.of [(3, .ptr 3 0), (4, .ptr 4 0), (31, cndsV (clAt k i).start), (32, .c (.int .i64 (clAt k i).start.length)), (33, .c (.int .i64 j))] ([(3, .cells 27 (kC k)), (4, .cells 45 (stC s))]) 1000 65 (fun _ => false))
      (fun j => j ≤ (clAt k i).start.length ∧ ∀ q, q < j → condHB s.wk.mark ((clAt k i).start.getD q default) = true) (fun j => (clAt k i).start.length - j) 0 ⟨Nat.zero_le _, fun j hj => absurd hj (Nat.not_lt_zero _)⟩
      (Weak.of hN rfl rfl rfl frI frI) fun j hj => ?_
    obtain ⟨hj1, hj2⟩ := hj
    (repeat (first | refine XK.n ?_ | refine XK.a ?_ | refine XK.b ?_)); refine XK.cond rfl (fun hlt => ?_) (fun hlt => ?_) <;> (try simp at hlt)
    · have hcj := hc j hlt
      have fin : ∀ b : Bool, b = condHB s.wk.mark ((clAt k i).start.getD j default) → ((b = false → (clAt k i).start.all (condHB s.wk.mark) = false) ∧ (b = true → ∀ q, q < j + 1 → condHB s.wk.mark ((clAt k i).start.getD q default) = true)) := by
        intro b hb
        refine ⟨fun h => all_not hlt (by rw [← hb, h]), fun h q hq => ?_⟩
        by_cases hqj : q = j
        · subst hqj; rw [← hb, h]
        · exact hj2 q (by omega)
      have fix : ((clAt k i).start.getD (j : Int).toNat default) = (clAt k i).start.getD j default := rfl
      generalize hsc : (clAt k i).start.getD j default = c at hcj fin fix
      have fx : s.marks.getD c.clause.toNat default = s.wk.mark c.clause.toNat := rfl
      (repeat (first | refine XK.n ?_ | refine XK.a ?_ | refine XK.b ?_))
      rw [fix]
      try rw [fx]
      (repeat (first | refine XK.n ?_ | refine XK.a ?_ | refine XK.b ?_)); refine XK.cond rfl (fun h1 => ?_) (fun h1 => ?_) <;> (try simp at h1)
      · (repeat (first | refine XK.n ?_ | refine XK.a ?_ | refine XK.b ?_)); refine XK.cond rfl (fun h5 => ?_) (fun h5 => ?_) <;> (try simp at h5)
        · (repeat (first | refine XK.n ?_ | refine XK.a ?_ | refine XK.b ?_))
          (first | refine XK.o ?_ | refine XK.p ?_)
          rw [(fin false (by simp [condHB, h1, h5])).1 rfl]; try rfl
        · (repeat (first | refine XK.n ?_ | refine XK.a ?_ | refine XK.b ?_))
          refine XK.inv ⟨j + 1, ⟨hlt, (fin true (by simp [condHB, h1, h5])).2 rfl⟩, (Weak.of hN rfl rfl rfl frI frI), by omega⟩
      · skip
        (repeat (first | refine XK.n ?_ | refine XK.a ?_ | refine XK.b ?_)); refine XK.cond rfl (fun h2 => ?_) (fun h2 => ?_) <;> (try simp at h2)
        · (repeat (first | refine XK.n ?_ | refine XK.a ?_ | refine XK.b ?_)); refine XK.cond rfl (fun h5 => ?_) (fun h5 => ?_) <;> (try simp at h5)
          · (repeat (first | refine XK.n ?_ | refine XK.a ?_ | refine XK.b ?_))
            (first | refine XK.o ?_ | refine XK.p ?_)
            rw [(fin false (by simp [condHB, h1, h2, h5])).1 rfl]; try rfl
          · (repeat (first | refine XK.n ?_ | refine XK.a ?_ | refine XK.b ?_))
            refine XK.inv ⟨j + 1, ⟨hlt, (fin true (by simp [condHB, h1, h2, h5])).2 rfl⟩, (Weak.of hN rfl rfl rfl frI frI), by omega⟩
        · skip
          (repeat (first | refine XK.n ?_ | refine XK.a ?_ | refine XK.b ?_)); refine XK.cond rfl (fun h3 => ?_) (fun h3 => ?_) <;> (try simp at h3)
          · (repeat (first | refine XK.n ?_ | refine XK.a ?_ | refine XK.b ?_)); refine XK.cond rfl (fun h5 => ?_) (fun h5 => ?_) <;> (try simp at h5)
            · (repeat (first | refine XK.n ?_ | refine XK.a ?_ | refine XK.b ?_))
              (first | refine XK.o ?_ | refine XK.p ?_)
              rw [(fin false (by simp [condHB, h1, h2, h3, h5])).1 rfl]; try rfl
            · (repeat (first | refine XK.n ?_ | refine XK.a ?_ | refine XK.b ?_))
              refine XK.inv ⟨j + 1, ⟨hlt, (fin true (by simp [condHB, h1, h2, h3, h5])).2 rfl⟩, (Weak.of hN rfl rfl rfl frI frI), by omega⟩
          · skip
            (repeat (first | refine XK.n ?_ | refine XK.a ?_ | refine XK.b ?_)); refine XK.cond rfl (fun h4 => ?_) (fun h4 => ?_) <;> (try simp at h4)
            · (repeat (first | refine XK.n ?_ | refine XK.a ?_ | refine XK.b ?_)); refine XK.cond rfl (fun h5 => ?_) (fun h5 => ?_) <;> (try simp at h5)
              · (repeat (first | refine XK.n ?_ | refine XK.a ?_ | refine XK.b ?_))
                (first | refine XK.o ?_ | refine XK.p ?_)
                rw [(fin false (by simp [condHB, h1, h2, h3, h4, h5])).1 rfl]; try rfl
              · (repeat (first | refine XK.n ?_ | refine XK.a ?_ | refine XK.b ?_))
                refine XK.inv ⟨j + 1, ⟨hlt, (fin true (by simp [condHB, h1, h2, h3, h4, h5])).2 rfl⟩, (Weak.of hN rfl rfl rfl frI frI), by omega⟩
            · omega
    · (repeat (first | refine XK.n ?_ | refine XK.a ?_ | refine XK.b ?_))
      (first | refine XK.o ?_ | refine XK.p ?_)
      have : (clAt k i).start.all (condHB s.wk.mark) = true := all_at.2 fun q hq => hj2 q (by omega)
      rw [this]; try rfl
theorem readyM_ok (k : K) (hk : KFacts k) (w : Wk) (i : Nat) (hi : i < k.clauses.length) : DoesM Tryz.prog 69 [kV k, .agg [.c (.int .i64 w.day), .vec 0 0, .vec 1 0, .vec 2 0], .c (.int .i64 i)] (wRows k w) (.c (.bool (rdyB k w.mark i))) (wRows k w) := by
  refine DoesM.mk (fun _ => false) 100 TT_ok Tryz.func69 rfl (by kernel_rfl) Tryz.ntmps69 rfl rfl rfl fun E hT hE hN hR => ?_
  have hm := mixO hE
  have hx := hk.clW' hi
  have fc : k.clauses.getD (i : Int).toNat default = clAt k i := rfl
  have hc := fun j (hj : j < (clAt k i).start.length) => hk.cond hi (s := (clAt k i).start.getD j default) (by simp only [List.getD_eq_getElem?_getD, List.getElem?_eq_getElem hj, Option.getD_some]; exact List.getElem_mem hj)
  unfold rdyB
  (repeat (first | refine XK.n ?_ | refine XK.a ?_ | refine XK.b ?_))
  try rw [fc]
  (repeat (first | refine XK.n ?_ | refine XK.a ?_ | refine XK.b ?_)); refine XK.cond rfl (fun h0 => ?_) (fun h0 => ?_)
  · have h0 : ((w.mark i).status != 0 || (clAt k i).waived) = true := h0
    rw [if_pos h0]
    (repeat (first | refine XK.n ?_ | refine XK.a ?_ | refine XK.b ?_))
    (first | refine XK.outR [0, 1, 2] hN rfl rfl rfl ?_ rfl rfl ?_ | refine XK.outRN [0, 1, 2] hN rfl rfl rfl ?_ rfl rfl ?_)
    · exact frI
    · rfl
  · have h0 : ((w.mark i).status != 0 || (clAt k i).waived) = false := h0
    have h0 : ¬ ((w.mark i).status != 0 || (clAt k i).waived) = true := by rw [h0]; simp
    rw [if_neg h0]
    (repeat (first | refine XK.n ?_ | refine XK.a ?_ | refine XK.b ?_))
    rw [fc]
    refine XK.fact (Sat.rs_len (j := 31) rfl) fun hlen => ?_
    have hm' : (clAt k i).start.length ≤ 9223372036854775807 := hlen.1
    refine XK.loop (ι := Nat) (fun j => ST.of [(3, .ptr 103 0), (4, .ptr 104 0), (31, cndsV (clAt k i).start), (32, .c (.int .i64 (clAt k i).start.length)), (33, .c (.int .i64 j))] ((103, .cells 27 (kC k)) :: (104, .cells 45 [.c (.int .i64 w.day), .vec 0 0, .vec 1 0, .vec 2 0]) :: wRowsN k w) 1000 65 (fun _ => false))
      (fun j => j ≤ (clAt k i).start.length ∧ ∀ q, q < j → condHB w.mark ((clAt k i).start.getD q default) = true) (fun j => (clAt k i).start.length - j) 0 ⟨Nat.zero_le _, fun j hj => absurd hj (Nat.not_lt_zero _)⟩
      (Weak.of hN rfl rfl rfl frI frI) fun j hj => ?_
    obtain ⟨hj1, hj2⟩ := hj
    (repeat (first | refine XK.n ?_ | refine XK.a ?_ | refine XK.b ?_)); refine XK.cond rfl (fun hlt => ?_) (fun hlt => ?_) <;> (try simp at hlt)
    · have hcj := hc j hlt
      have fin : ∀ b : Bool, b = condHB w.mark ((clAt k i).start.getD j default) → ((b = false → (clAt k i).start.all (condHB w.mark) = false) ∧ (b = true → ∀ q, q < j + 1 → condHB w.mark ((clAt k i).start.getD q default) = true)) := by
        intro b hb
        refine ⟨fun h => all_not hlt (by rw [← hb, h]), fun h q hq => ?_⟩
        by_cases hqj : q = j
        · subst hqj; rw [← hb, h]
        · exact hj2 q (by omega)
      have fix : ((clAt k i).start.getD (j : Int).toNat default) = (clAt k i).start.getD j default := rfl
      generalize hsc : (clAt k i).start.getD j default = c at hcj fin fix
      (repeat (first | refine XK.n ?_ | refine XK.a ?_ | refine XK.b ?_))
      rw [fix]
      (repeat (first | refine XK.n ?_ | refine XK.a ?_ | refine XK.b ?_)); refine XK.cond rfl (fun h1 => ?_) (fun h1 => ?_) <;> (try simp at h1)
      · (repeat (first | refine XK.n ?_ | refine XK.a ?_ | refine XK.b ?_)); refine XK.cond rfl (fun h5 => ?_) (fun h5 => ?_) <;> (try simp at h5)
        · (repeat (first | refine XK.n ?_ | refine XK.a ?_ | refine XK.b ?_))
          (first | refine XK.outR [0, 1, 2] hN rfl rfl rfl ?_ rfl rfl ?_ | refine XK.outRN [0, 1, 2] hN rfl rfl rfl ?_ rfl rfl ?_)
          · exact frI
          · rw [(fin false (by simp [condHB, h1, h5])).1 rfl]; try rfl
        · (repeat (first | refine XK.n ?_ | refine XK.a ?_ | refine XK.b ?_))
          refine XK.inv ⟨j + 1, ⟨hlt, (fin true (by simp [condHB, h1, h5])).2 rfl⟩, (Weak.of hN rfl rfl rfl frI frI), by omega⟩
      · skip
        (repeat (first | refine XK.n ?_ | refine XK.a ?_ | refine XK.b ?_)); refine XK.cond rfl (fun h2 => ?_) (fun h2 => ?_) <;> (try simp at h2)
        · (repeat (first | refine XK.n ?_ | refine XK.a ?_ | refine XK.b ?_)); refine XK.cond rfl (fun h5 => ?_) (fun h5 => ?_) <;> (try simp at h5)
          · (repeat (first | refine XK.n ?_ | refine XK.a ?_ | refine XK.b ?_))
            (first | refine XK.outR [0, 1, 2] hN rfl rfl rfl ?_ rfl rfl ?_ | refine XK.outRN [0, 1, 2] hN rfl rfl rfl ?_ rfl rfl ?_)
            · exact frI
            · rw [(fin false (by simp [condHB, h1, h2, h5])).1 rfl]; try rfl
          · (repeat (first | refine XK.n ?_ | refine XK.a ?_ | refine XK.b ?_))
            refine XK.inv ⟨j + 1, ⟨hlt, (fin true (by simp [condHB, h1, h2, h5])).2 rfl⟩, (Weak.of hN rfl rfl rfl frI frI), by omega⟩
        · skip
          (repeat (first | refine XK.n ?_ | refine XK.a ?_ | refine XK.b ?_)); refine XK.cond rfl (fun h3 => ?_) (fun h3 => ?_) <;> (try simp at h3)
          · (repeat (first | refine XK.n ?_ | refine XK.a ?_ | refine XK.b ?_)); refine XK.cond rfl (fun h5 => ?_) (fun h5 => ?_) <;> (try simp at h5)
            · (repeat (first | refine XK.n ?_ | refine XK.a ?_ | refine XK.b ?_))
              (first | refine XK.outR [0, 1, 2] hN rfl rfl rfl ?_ rfl rfl ?_ | refine XK.outRN [0, 1, 2] hN rfl rfl rfl ?_ rfl rfl ?_)
              · exact frI
              · rw [(fin false (by simp [condHB, h1, h2, h3, h5])).1 rfl]; try rfl
            · (repeat (first | refine XK.n ?_ | refine XK.a ?_ | refine XK.b ?_))
              refine XK.inv ⟨j + 1, ⟨hlt, (fin true (by simp [condHB, h1, h2, h3, h5])).2 rfl⟩, (Weak.of hN rfl rfl rfl frI frI), by omega⟩
          · skip
            (repeat (first | refine XK.n ?_ | refine XK.a ?_ | refine XK.b ?_)); refine XK.cond rfl (fun h4 => ?_) (fun h4 => ?_) <;> (try simp at h4)
            · (repeat (first | refine XK.n ?_ | refine XK.a ?_ | refine XK.b ?_)); refine XK.cond rfl (fun h5 => ?_) (fun h5 => ?_) <;> (try simp at h5)
              · (repeat (first | refine XK.n ?_ | refine XK.a ?_ | refine XK.b ?_))
                (first | refine XK.outR [0, 1, 2] hN rfl rfl rfl ?_ rfl rfl ?_ | refine XK.outRN [0, 1, 2] hN rfl rfl rfl ?_ rfl rfl ?_)
                · exact frI
                · rw [(fin false (by simp [condHB, h1, h2, h3, h4, h5])).1 rfl]; try rfl
              · (repeat (first | refine XK.n ?_ | refine XK.a ?_ | refine XK.b ?_))
                refine XK.inv ⟨j + 1, ⟨hlt, (fin true (by simp [condHB, h1, h2, h3, h4, h5])).2 rfl⟩, (Weak.of hN rfl rfl rfl frI frI), by omega⟩
            · omega
    · (repeat (first | refine XK.n ?_ | refine XK.a ?_ | refine XK.b ?_))
      (first | refine XK.outR [0, 1, 2] hN rfl rfl rfl ?_ rfl rfl ?_ | refine XK.outRN [0, 1, 2] hN rfl rfl rfl ?_ rfl rfl ?_)
      · exact frI
      · have : (clAt k i).start.all (condHB w.mark) = true := all_at.2 fun q hq => hj2 q (by omega)
        rw [this]; try rfl
end
section
open Go.Eng
theorem rall {p : Nat → Bool} {n : Nat} : (List.range n).all p = true ↔ ∀ i, i < n → p i = true := by simp [List.all_eq_true]
theorem rall_not {p : Nat → Bool} {n i : Nat} (hi : i < n) (h : p i = false) : (List.range n).all p = false := by
  rw [← Bool.not_eq_true, rall]
  intro h2
  rw [h2 i hi] at h
  cases h
noncomputable def validS (k : K) (s : St) : Bool :=
  if (kValid k).1 ≠ 0 then false
  else if (decide (s.day < 0) || decide (k.days < s.day) || (s.holders.length : Int) != k.holders.length || (s.used.length : Int) != k.acts.length || (s.marks.length : Int) != k.clauses.length) = true then false
  else if s.holders.all (fun h => !(decide (h < 0) || decide (k.parties ≤ h))) = false then false
  else if (List.range s.used.length).all (fun a => !(s.used.getD a default && (acAt k a).kind == 1)) = false then false
  else (List.range s.marks.length).all (fun i => markB k i (s.marks.getD i default) && !rdyB k s.wk.mark i)
theorem validS_ok (k : K) (hk : kW k) (s : St) : Does Tryz.prog 40 [kV k, stV s] (.c (.bool (validS k s))) := by
  refine Does.mk (fun _ => false) TT_ok Tryz.func40 rfl (by kernel_rfl) Tryz.ntmps40 rfl rfl fun E hT hE hN hR => ?_
  have hm := mixO hE
  (repeat (first | refine XK.n ?_ | refine XK.a ?_ | refine XK.b ?_)); refine XK.region ?_; refine XL.g ?_
  refine XL.callLA hE rfl rfl rfl rfl trivial rfl (kValid_ok k hk) rfl ?_
  refine XL.g ?_; refine XL.fin ?_; (repeat (first | refine XK.n ?_ | refine XK.a ?_ | refine XK.b ?_))
  unfold validS
  (repeat (first | refine XK.n ?_ | refine XK.a ?_ | refine XK.b ?_)); refine XK.cond rfl (fun h1 => ?_) (fun h1 => ?_) <;> (try simp at h1)
  · rw [if_pos h1]
    (repeat (first | refine XK.n ?_ | refine XK.a ?_ | refine XK.b ?_))
    (first | refine XK.o ?_ | refine XK.p ?_)
    rfl
  · rw [if_neg (by simpa using h1)]
    have hF := (show kOk k from ⟨hk, by simpa using h1⟩).facts
    (repeat (first | refine XK.n ?_ | refine XK.a ?_ | refine XK.b ?_)); refine XK.cond rfl (fun h2 => ?_) (fun h2 => ?_)
    · rw [if_pos h2]
      (repeat (first | refine XK.n ?_ | refine XK.a ?_ | refine XK.b ?_))
      (first | refine XK.o ?_ | refine XK.p ?_)
      rfl
    · rw [if_neg (by rw [h2]; simp)]
      simp only [Bool.or_eq_false_iff, decide_eq_false_iff_not, bne_eq_false_iff_eq] at h2
      obtain ⟨⟨⟨⟨d1, d2⟩, e1⟩, e2⟩, e3⟩ := h2
      have e1 : s.holders.length = k.holders.length := by omega
      have e2 : s.used.length = k.acts.length := by omega
      have e3 : s.marks.length = k.clauses.length := by omega
      have b1 := hF.nh
      have b2 := hF.na
      have b3 := hF.nc
      (repeat (first | refine XK.n ?_ | refine XK.a ?_ | refine XK.b ?_))
      refine XK.loop (ι := Nat) (fun i => ST.of [(2, .ptr 2 0), (3, .ptr 3 0), (57, intsV s.holders), (58, .c (.int .i64 s.holders.length)), (59, .c (.int .i64 i))] [(2, .cells 27 (kC k)), (3, .cells 45 (stC s))] 1000 113 (fun _ => false))
        (fun i => i ≤ s.holders.length ∧ ∀ q, q < i → (fun h : Int => !(decide (h < 0) || decide (k.parties ≤ h))) (s.holders.getD q default) = true) (fun i => s.holders.length - i) 0 ⟨Nat.zero_le _, fun q hq => absurd hq (Nat.not_lt_zero _)⟩
        (Weak.of hN rfl rfl rfl frI frI) fun i hi => ?_
      obtain ⟨hi1, hi2⟩ := hi
      (repeat (first | refine XK.n ?_ | refine XK.a ?_ | refine XK.b ?_)); refine XK.cond rfl (fun hlt => ?_) (fun hlt => ?_) <;> (try simp at hlt)
      · have fh : s.holders.getD (i : Int).toNat default = s.holders.getD i default := rfl
        (repeat (first | refine XK.n ?_ | refine XK.a ?_ | refine XK.b ?_))
        try rw [fh]
        (repeat (first | refine XK.n ?_ | refine XK.a ?_ | refine XK.b ?_)); refine XK.cond rfl (fun hb => ?_) (fun hb => ?_)
        · rw [if_pos (all_not (p := fun h : Int => !(decide (h < 0) || decide (k.parties ≤ h))) hlt (by
            show (!(decide (s.holders.getD i default < 0) || decide (k.parties ≤ s.holders.getD i default))) = false
            rw [show (decide (s.holders.getD i default < 0) || decide (k.parties ≤ s.holders.getD i default)) = true from hb]; rfl))]
          (repeat (first | refine XK.n ?_ | refine XK.a ?_ | refine XK.b ?_))
          (first | refine XK.o ?_ | refine XK.p ?_)
          rfl
        · (repeat (first | refine XK.n ?_ | refine XK.a ?_ | refine XK.b ?_))
          refine XK.inv ⟨i + 1, ⟨hlt, fun q hq => ?_⟩, (Weak.of hN rfl rfl rfl frI frI), by omega⟩
          by_cases hqi : q = i
          · subst hqi
            show (!(decide (s.holders.getD q default < 0) || decide (k.parties ≤ s.holders.getD q default))) = true
            rw [show (decide (s.holders.getD q default < 0) || decide (k.parties ≤ s.holders.getD q default)) = false from hb]; rfl
          · exact hi2 q (by omega)
      · have hall : s.holders.all (fun h => !(decide (h < 0) || decide (k.parties ≤ h))) = true := all_at.2 fun q hq => hi2 q (by omega)
        rw [if_neg (by rw [hall]; simp)]
        clear hi2 hall
        (repeat (first | refine XK.n ?_ | refine XK.a ?_ | refine XK.b ?_))
        refine XK.loop (ι := Nat) (fun i => ST.of [(2, .ptr 2 0), (3, .ptr 3 0), (73, boolsV s.used), (74, .c (.int .i64 s.used.length)), (75, .c (.int .i64 i))] [(2, .cells 27 (kC k)), (3, .cells 45 (stC s))] 2000 113 (fun _ => false))
          (fun i => i ≤ s.used.length ∧ ∀ q, q < i → (!(s.used.getD q default && (acAt k q).kind == 1)) = true) (fun i => s.used.length - i) 0 ⟨Nat.zero_le _, fun q hq => absurd hq (Nat.not_lt_zero _)⟩
          (Weak.of hN rfl rfl rfl frI frI) fun j hj => ?_
        obtain ⟨hj1, hj2⟩ := hj
        (repeat (first | refine XK.n ?_ | refine XK.a ?_ | refine XK.b ?_)); refine XK.cond rfl (fun hlt2 => ?_) (fun hlt2 => ?_) <;> (try simp at hlt2)
        · have fh : s.used.getD (j : Int).toNat default = s.used.getD j default := rfl
          have fc : k.acts.getD (j : Int).toNat default = acAt k j := rfl
          (repeat (first | refine XK.n ?_ | refine XK.a ?_ | refine XK.b ?_))
          try rw [fh, fc]
          (repeat (first | refine XK.n ?_ | refine XK.a ?_ | refine XK.b ?_)); refine XK.cond rfl (fun hb => ?_) (fun hb => ?_)
          · rw [if_pos (rall_not hlt2 (by rw [show (s.used.getD j default && (acAt k j).kind == 1) = true from hb]; rfl))]
            (repeat (first | refine XK.n ?_ | refine XK.a ?_ | refine XK.b ?_))
            (first | refine XK.o ?_ | refine XK.p ?_)
            rfl
          · (repeat (first | refine XK.n ?_ | refine XK.a ?_ | refine XK.b ?_))
            refine XK.inv ⟨j + 1, ⟨hlt2, fun q hq => ?_⟩, (Weak.of hN rfl rfl rfl frI frI), by omega⟩
            by_cases hqi : q = j
            · subst hqi
              rw [show (s.used.getD q default && (acAt k q).kind == 1) = false from hb]; rfl
            · exact hj2 q (by omega)
        · have hall : (List.range s.used.length).all (fun a => !(s.used.getD a default && (acAt k a).kind == 1)) = true := rall.2 fun q hq => hj2 q (by omega)
          rw [if_neg (by rw [hall]; simp)]
          clear hj2 hall
          (repeat (first | refine XK.n ?_ | refine XK.a ?_ | refine XK.b ?_))
          refine XK.loop (ι := Nat) (fun i => ST.of [(2, .ptr 2 0), (3, .ptr 3 0), (92, rowL mkC 5 s.marks), (93, .c (.int .i64 s.marks.length)), (94, .c (.int .i64 i))] [(2, .cells 27 (kC k)), (3, .cells 45 (stC s))] 3000 113 (fun _ => false))
            (fun i => i ≤ s.marks.length ∧ ∀ q, q < i → (markB k q (s.marks.getD q default) && !rdyB k s.wk.mark q) = true) (fun i => s.marks.length - i) 0 ⟨Nat.zero_le _, fun q hq => absurd hq (Nat.not_lt_zero _)⟩
            (Weak.of hN rfl rfl rfl frI frI) fun m hm0 => ?_
          obtain ⟨hm1, hm2⟩ := hm0
          (repeat (first | refine XK.n ?_ | refine XK.a ?_ | refine XK.b ?_)); refine XK.cond rfl (fun hlt3 => ?_) (fun hlt3 => ?_) <;> (try simp at hlt3)
          · have hmc : m < k.clauses.length := by omega
            have fh : s.marks.getD (m : Int).toNat default = s.marks.getD m default := rfl
            have v1 := validMark_ok k m hmc (s.marks.getD m default)
            have v2 := sready_ok k hF s e3 m hmc
            (repeat (first | refine XK.n ?_ | refine XK.a ?_ | refine XK.b ?_)); refine XK.drawn hm ?_; refine XD.goA hT rfl rfl rfl rfl ?_
            try rw [fh]
            refine XD.callLA hE rfl rfl rfl rfl trivial rfl (v1) rfl ?_
            refine XD.goA hT rfl rfl rfl rfl ?_
            refine XD.callGA hE rfl rfl rfl rfl rfl rfl rfl rfl rfl (v2) rfl ?_
            refine XD.goA hT rfl rfl rfl rfl ?_; refine XD.fin (by kernel_rfl) ?_; (repeat (first | refine XK.n ?_ | refine XK.a ?_ | refine XK.b ?_))
            (repeat (first | refine XK.n ?_ | refine XK.a ?_ | refine XK.b ?_)); refine XK.cond rfl (fun hb => ?_) (fun hb => ?_)
            · have hb : (!markB k m (s.marks.getD m default) || rdyB k s.wk.mark m) = true := hb
              rw [rall_not hlt3 (by revert hb; cases markB k m (s.marks.getD m default) <;> cases rdyB k s.wk.mark m <;> simp)]
              (repeat (first | refine XK.n ?_ | refine XK.a ?_ | refine XK.b ?_))
              (first | refine XK.o ?_ | refine XK.p ?_)
              rfl
            · have hb : (!markB k m (s.marks.getD m default) || rdyB k s.wk.mark m) = false := hb
              (repeat (first | refine XK.n ?_ | refine XK.a ?_ | refine XK.b ?_))
              refine XK.inv ⟨m + 1, ⟨hlt3, fun q hq => ?_⟩, (Weak.of hN rfl rfl rfl frI frI), by omega⟩
              by_cases hqi : q = m
              · subst hqi
                revert hb; cases markB k q (s.marks.getD q default) <;> cases rdyB k s.wk.mark q <;> simp
              · exact hm2 q (by omega)
          · rw [show (List.range s.marks.length).all (fun i => markB k i (s.marks.getD i default) && !rdyB k s.wk.mark i) = true from rall.2 fun q hq => hm2 q (by omega)]
            (repeat (first | refine XK.n ?_ | refine XK.a ?_ | refine XK.b ?_))
            (first | refine XK.o ?_ | refine XK.p ?_)
            rfl
theorem validS_len {k : K} {s : St} (h : validS k s = true) : (kValid k).1 = 0 ∧ s.holders.length = k.holders.length ∧ s.used.length = k.acts.length ∧ s.marks.length = k.clauses.length ∧ (0 ≤ s.day ∧ s.day ≤ k.days) ∧
    (∀ i, i < s.holders.length → 0 ≤ s.holders.getD i default ∧ s.holders.getD i default < k.parties) ∧ (∀ i, i < s.used.length → (!(s.used.getD i default && (acAt k i).kind == 1)) = true) ∧ ∀ i, i < s.marks.length → (markB k i (s.marks.getD i default) && !rdyB k s.wk.mark i) = true := by
  unfold validS at h
  split at h
  · cases h
  · rename_i h1
    split at h
    · cases h
    · rename_i h2
      simp only [Bool.or_eq_true, decide_eq_true_eq, bne_iff_ne, ne_eq, not_or, Decidable.not_not] at h2
      split at h
      · cases h
      · rename_i h3
        split at h
        · cases h
        · rename_i h4
          have h4 := by simpa only [Bool.not_eq_false] using h4
          have h3 := all_at.1 (by simpa using h3 : s.holders.all (fun h => !(decide (h < 0) || decide (k.parties ≤ h))) = true)
          refine ⟨by simpa using h1, by omega, by omega, by omega, by omega, fun i hi => ?_, fun i hi => rall.1 h4 i hi, fun i hi => rall.1 h i hi⟩
          have := h3 i hi
          simp only [Bool.not_eq_true', Bool.or_eq_false_iff, decide_eq_false_iff_not] at this
          omega
def eqIS (l r : List Int) : Bool := l.length == r.length && (List.range l.length).all (fun i => l.getD i default == r.getD i default)
theorem eqI_ok (l r : List Int) : Does Tryz.prog 37 [intsV l, intsV r] (.c (.bool (eqIS l r))) := by
  refine Does.mk (fun _ => false) TT_ok Tryz.func37 rfl (by kernel_rfl) Tryz.ntmps37 rfl rfl fun E hT hE hN hR => ?_
  have hm := mixO hE
  unfold eqIS
  refine XK.fact (Sat.rs_len (j := 0) rfl) fun hlen => ?_
  have hm' : l.length ≤ 9223372036854775807 := hlen.1
  (repeat (first | refine XK.n ?_ | refine XK.a ?_ | refine XK.b ?_)); refine XK.cond rfl (fun h1 => ?_) (fun h1 => ?_) <;> (try simp at h1)
  · rw [show (l.length == r.length) = false from beq_false_of_ne (by omega)]
    (repeat (first | refine XK.n ?_ | refine XK.a ?_ | refine XK.b ?_))
    (first | refine XK.o ?_ | refine XK.p ?_)
    rfl
  · have h1 : l.length = r.length := by omega
    rw [show (l.length == r.length) = true from beq_iff_eq.2 h1]
    (repeat (first | refine XK.n ?_ | refine XK.a ?_ | refine XK.b ?_))
    refine XK.loop (ι := Nat) (fun i => ST.of [(0, intsV l), (1, intsV r), (12, .c (.int .i64 l.length)), (13, .c (.int .i64 i))] [] 1000 26 (fun _ => false))
      (fun i => i ≤ l.length ∧ ∀ q, q < i → (fun i => l.getD i default == r.getD i default) q = true) (fun i => l.length - i) 0 ⟨Nat.zero_le _, fun q hq => absurd hq (Nat.not_lt_zero _)⟩
      (Weak.of hN rfl rfl rfl frI frI) fun i hi => ?_
    obtain ⟨hi1, hi2⟩ := hi
    (repeat (first | refine XK.n ?_ | refine XK.a ?_ | refine XK.b ?_)); refine XK.cond rfl (fun hlt => ?_) (fun hlt => ?_) <;> (try simp at hlt)
    · have f1 : l.getD (i : Int).toNat default = l.getD i default := rfl
      have f2 : r.getD (i : Int).toNat default = r.getD i default := rfl
      (repeat (first | refine XK.n ?_ | refine XK.a ?_ | refine XK.b ?_))
      try rw [f1, f2]
      (repeat (first | refine XK.n ?_ | refine XK.a ?_ | refine XK.b ?_)); refine XK.cond rfl (fun hb => ?_) (fun hb => ?_)
      · rw [rall_not hlt (by simpa using hb)]
        (repeat (first | refine XK.n ?_ | refine XK.a ?_ | refine XK.b ?_))
        (first | refine XK.o ?_ | refine XK.p ?_)
        rfl
      · (repeat (first | refine XK.n ?_ | refine XK.a ?_ | refine XK.b ?_))
        refine XK.inv ⟨i + 1, ⟨hlt, fun q hq => ?_⟩, (Weak.of hN rfl rfl rfl frI frI), by omega⟩
        by_cases hqi : q = i
        · subst hqi; simpa using hb
        · exact hi2 q (by omega)
    · rw [rall.2 fun q hq => hi2 q (by omega)]
      (repeat (first | refine XK.n ?_ | refine XK.a ?_ | refine XK.b ?_))
      (first | refine XK.o ?_ | refine XK.p ?_)
      rfl
def eqBS (l r : List Bool) : Bool := l.length == r.length && (List.range l.length).all (fun i => l.getD i default == r.getD i default)
theorem eqB_ok (l r : List Bool) : Does Tryz.prog 38 [boolsV l, boolsV r] (.c (.bool (eqBS l r))) := by
  refine Does.mk (fun _ => false) TT_ok Tryz.func38 rfl (by kernel_rfl) Tryz.ntmps38 rfl rfl fun E hT hE hN hR => ?_
  have hm := mixO hE
  unfold eqBS
  refine XK.fact (Sat.rs_len (j := 0) rfl) fun hlen => ?_
  have hm' : l.length ≤ 9223372036854775807 := hlen.1
  (repeat (first | refine XK.n ?_ | refine XK.a ?_ | refine XK.b ?_)); refine XK.cond rfl (fun h1 => ?_) (fun h1 => ?_) <;> (try simp at h1)
  · rw [show (l.length == r.length) = false from beq_false_of_ne (by omega)]
    (repeat (first | refine XK.n ?_ | refine XK.a ?_ | refine XK.b ?_))
    (first | refine XK.o ?_ | refine XK.p ?_)
    rfl
  · have h1 : l.length = r.length := by omega
    rw [show (l.length == r.length) = true from beq_iff_eq.2 h1]
    (repeat (first | refine XK.n ?_ | refine XK.a ?_ | refine XK.b ?_))
    refine XK.loop (ι := Nat) (fun i => ST.of [(0, boolsV l), (1, boolsV r), (12, .c (.int .i64 l.length)), (13, .c (.int .i64 i))] [] 1000 26 (fun _ => false))
      (fun i => i ≤ l.length ∧ ∀ q, q < i → (fun i => l.getD i default == r.getD i default) q = true) (fun i => l.length - i) 0 ⟨Nat.zero_le _, fun q hq => absurd hq (Nat.not_lt_zero _)⟩
      (Weak.of hN rfl rfl rfl frI frI) fun i hi => ?_
    obtain ⟨hi1, hi2⟩ := hi
    (repeat (first | refine XK.n ?_ | refine XK.a ?_ | refine XK.b ?_)); refine XK.cond rfl (fun hlt => ?_) (fun hlt => ?_) <;> (try simp at hlt)
    · have f1 : l.getD (i : Int).toNat default = l.getD i default := rfl
      have f2 : r.getD (i : Int).toNat default = r.getD i default := rfl
      (repeat (first | refine XK.n ?_ | refine XK.a ?_ | refine XK.b ?_))
      try rw [f1, f2]
      (repeat (first | refine XK.n ?_ | refine XK.a ?_ | refine XK.b ?_)); refine XK.cond rfl (fun hb => ?_) (fun hb => ?_)
      · rw [rall_not hlt (by simpa using hb)]
        (repeat (first | refine XK.n ?_ | refine XK.a ?_ | refine XK.b ?_))
        (first | refine XK.o ?_ | refine XK.p ?_)
        rfl
      · (repeat (first | refine XK.n ?_ | refine XK.a ?_ | refine XK.b ?_))
        refine XK.inv ⟨i + 1, ⟨hlt, fun q hq => ?_⟩, (Weak.of hN rfl rfl rfl frI frI), by omega⟩
        by_cases hqi : q = i
        · subst hqi; simpa using hb
        · exact hi2 q (by omega)
    · rw [rall.2 fun q hq => hi2 q (by omega)]
      (repeat (first | refine XK.n ?_ | refine XK.a ?_ | refine XK.b ?_))
      (first | refine XK.o ?_ | refine XK.p ?_)
      rfl
def eqMk (a b : Mk) : Bool := a.status == b.status && (a.left == b.left && (a.got == b.got && (a.bearer == b.bearer && a.paused == b.paused)))
theorem eqMk_iff {a b : Mk} : eqMk a b = true ↔ a = b := by
  cases a; cases b; simp [eqMk]
def eqMS (l r : List Mk) : Bool := l.length == r.length && (List.range l.length).all (fun i => eqMk (l.getD i default) (r.getD i default))
theorem eqM_ok (l r : List Mk) : Does Tryz.prog 39 [rowL mkC 5 l, rowL mkC 5 r] (.c (.bool (eqMS l r))) := by
  refine Does.mk (fun _ => false) TT_ok Tryz.func39 rfl (by kernel_rfl) Tryz.ntmps39 rfl rfl fun E hT hE hN hR => ?_
  have hm := mixO hE
  unfold eqMS
  refine XK.fact (Sat.rs_len (j := 0) rfl) fun hlen => ?_
  have hm' : l.length ≤ 9223372036854775807 := hlen.1
  (repeat (first | refine XK.n ?_ | refine XK.a ?_ | refine XK.b ?_)); refine XK.cond rfl (fun h1 => ?_) (fun h1 => ?_) <;> (try simp at h1)
  · rw [show (l.length == r.length) = false from beq_false_of_ne (by omega)]
    (repeat (first | refine XK.n ?_ | refine XK.a ?_ | refine XK.b ?_))
    (first | refine XK.o ?_ | refine XK.p ?_)
    rfl
  · have h1 : l.length = r.length := by omega
    rw [show (l.length == r.length) = true from beq_iff_eq.2 h1]
    (repeat (first | refine XK.n ?_ | refine XK.a ?_ | refine XK.b ?_))
    refine XK.loop (ι := Nat) (fun i => ST.of [(0, rowL mkC 5 l), (1, rowL mkC 5 r), (12, .c (.int .i64 l.length)), (13, .c (.int .i64 i))] [] 1000 26 (fun _ => false))
      (fun i => i ≤ l.length ∧ ∀ q, q < i → (fun i => eqMk (l.getD i default) (r.getD i default)) q = true) (fun i => l.length - i) 0 ⟨Nat.zero_le _, fun q hq => absurd hq (Nat.not_lt_zero _)⟩
      (Weak.of hN rfl rfl rfl frI frI) fun i hi => ?_
    obtain ⟨hi1, hi2⟩ := hi
    (repeat (first | refine XK.n ?_ | refine XK.a ?_ | refine XK.b ?_)); refine XK.cond rfl (fun hlt => ?_) (fun hlt => ?_) <;> (try simp at hlt)
    · have f1 : l.getD (i : Int).toNat default = l.getD i default := rfl
      have f2 : r.getD (i : Int).toNat default = r.getD i default := rfl
      (repeat (first | refine XK.n ?_ | refine XK.a ?_ | refine XK.b ?_))
      try rw [f1, f2]
      (repeat (first | refine XK.n ?_ | refine XK.a ?_ | refine XK.b ?_)); refine XK.cond rfl (fun hb => ?_) (fun hb => ?_)
      · rw [rall_not hlt (by rw [Bool.eq_false_iff]; intro h; rw [eqMk_iff] at h; rw [List.getD_eq_getElem?_getD, List.getD_eq_getElem?_getD] at h; simp [h] at hb)]
        (repeat (first | refine XK.n ?_ | refine XK.a ?_ | refine XK.b ?_))
        (first | refine XK.o ?_ | refine XK.p ?_)
        rfl
      · (repeat (first | refine XK.n ?_ | refine XK.a ?_ | refine XK.b ?_))
        refine XK.inv ⟨i + 1, ⟨hlt, fun q hq => ?_⟩, (Weak.of hN rfl rfl rfl frI frI), by omega⟩
        by_cases hqi : q = i
        · subst hqi; simpa [eqMk] using hb
        · exact hi2 q (by omega)
    · rw [rall.2 fun q hq => hi2 q (by omega)]
      (repeat (first | refine XK.n ?_ | refine XK.a ?_ | refine XK.b ?_))
      (first | refine XK.o ?_ | refine XK.p ?_)
      rfl
def sameS (a b : St) : Bool := a.day == b.day && eqIS a.holders b.holders && eqBS a.used b.used && eqMS a.marks b.marks
theorem sameS_ok (a b : St) : Does Tryz.prog 12 [stV a, stV b] (.c (.bool (sameS a b))) := by
  refine Does.mk (fun _ => false) TT_ok Tryz.func12 rfl (by kernel_rfl) Tryz.ntmps12 rfl rfl fun E hT hE hN hR => ?_
  have hm := mixO hE
  (repeat (first | refine XK.n ?_ | refine XK.a ?_ | refine XK.b ?_)); refine XK.region ?_; refine XL.g ?_
  refine XL.callGA hE rfl rfl rfl rfl rfl rfl rfl rfl (eqI_ok a.holders b.holders) rfl ?_
  refine XL.g ?_
  refine XL.callGA hE rfl rfl rfl rfl rfl rfl rfl rfl (eqB_ok a.used b.used) rfl ?_
  refine XL.g ?_
  refine XL.callGA hE rfl rfl rfl rfl rfl rfl rfl rfl (eqM_ok a.marks b.marks) rfl ?_
  refine XL.g ?_; refine XL.fin ?_; (repeat (first | refine XK.n ?_ | refine XK.a ?_ | refine XK.b ?_))
  (first | refine XK.o ?_ | refine XK.p ?_)
  rfl
end
section
open Go.Eng
def wO (k : K) (w : Wk) (h u m : Nat) : Ob := .cells 104 [.c (.int .i64 k.parties), intsV k.holders, unitsV k.units, actsV k.acts, clsV k.clauses, .c (.int .i64 k.days), intsV k.off,
  .c (.int .i64 w.day), .vec h 0, .vec u 0, .vec m 0]
def wOs (k : K) (w : Wk) : List Ob := [wO k w 1 2 3, wHold k w, wUsed k w, wMark k w]
def wN (k : K) (w : Wk) : List (Nat × Ob) := [(0, wO k w 1 2 3), (1, wHold k w), (2, wUsed k w), (3, wMark k w)]
theorem wend_ok (k : K) (w : Wk) (i : Nat) (s : Int) (hi : i < k.clauses.length) : DoesM Tryz.prog 121 [.ptr 0 0, .c (.int .i64 i), .c (.int .i64 s)] (wOs k w) (.tup []) (wOs k (w.upM i (endM (w.mark i) s))) := by
  refine DoesM.mk (fun _ => false) 100 TT_ok Tryz.func121 rfl (by kernel_rfl) Tryz.ntmps121 rfl rfl rfl fun E hT hE hN hR => ?_
  have hm := mixO hE
  (repeat (first | refine XK.n ?_ | refine XK.a ?_ | refine XK.b ?_))
  (first | refine XK.outR [0, 1, 2, 3] hN rfl rfl rfl ?_ rfl rfl ?_ | refine XK.outRN [0, 1, 2, 3] hN rfl rfl rfl ?_ rfl rfl ?_)
  · (repeat' (first | exact rfl | exact AvIs.refl _ | exact trivial | exact fun _ _ => rfl | exact fun _ _ => ⟨rfl, AvIs.refl _⟩ | exact fun _ hi => absurd hi (Nat.not_lt_zero _) | (intro i hi; cases Nat.lt_one_iff.1 hi; rfl) | (intro j hj; by_cases hji : j = (i); (· subst hji; simp [setRowF, setL, mkC, Wk.upM, endM]; done); (· simp [setRowF, beq_false hji, Wk.upM, endM, hji, lt_succ_ne hji]; done)) | refine ⟨?_, ?_⟩))
  · exact frI
theorem done_ok (k : K) (w : Wk) (i : Nat) (hi : i < k.clauses.length) : DoesM Tryz.prog 72 [.ptr 0 0, .c (.int .i64 i)] (wOs k w) (.tup []) (wOs k (w.upM i (endM (w.mark i) 3))) := by
  refine DoesM.mk (fun _ => false) 100 TT_ok Tryz.func72 rfl (by kernel_rfl) Tryz.ntmps72 rfl rfl rfl fun E hT hE hN hR => ?_
  have hm := mixO hE
  (repeat (first | refine XK.n ?_ | refine XK.a ?_ | refine XK.b ?_)); refine XK.region ?_; refine XL.g ?_
  refine XL.callMA [0, 1, 2, 3] hE rfl rfl rfl rfl trivial (wend_ok k w i 3 hi) rfl rfl rfl rfl rfl ?_
  refine XL.g ?_; refine XL.fin ?_; (repeat (first | refine XK.n ?_ | refine XK.a ?_ | refine XK.b ?_))
  (first | refine XK.outR [0, 1, 2, 3] hN rfl rfl rfl ?_ rfl rfl ?_ | refine XK.outRN [0, 1, 2, 3] hN rfl rfl rfl ?_ rfl rfl ?_)
  · exact frI
  · exact frI
theorem lapse_ok (k : K) (w : Wk) (i : Nat) (hi : i < k.clauses.length) : DoesM Tryz.prog 73 [.ptr 0 0, .c (.int .i64 i)] (wOs k w) (.tup []) (wOs k (w.upM i (endM (w.mark i) 5))) := by
  refine DoesM.mk (fun _ => false) 100 TT_ok Tryz.func73 rfl (by kernel_rfl) Tryz.ntmps73 rfl rfl rfl fun E hT hE hN hR => ?_
  have hm := mixO hE
  (repeat (first | refine XK.n ?_ | refine XK.a ?_ | refine XK.b ?_)); refine XK.region ?_; refine XL.g ?_
  refine XL.callMA [0, 1, 2, 3] hE rfl rfl rfl rfl trivial (wend_ok k w i 5 hi) rfl rfl rfl rfl rfl ?_
  refine XL.g ?_; refine XL.fin ?_; (repeat (first | refine XK.n ?_ | refine XK.a ?_ | refine XK.b ?_))
  (first | refine XK.outR [0, 1, 2, 3] hN rfl rfl rfl ?_ rfl rfl ?_ | refine XK.outRN [0, 1, 2, 3] hN rfl rfl rfl ?_ rfl rfl ?_)
  · exact frI
  · exact frI
theorem upM_same (w : Wk) (i : Nat) (m : Mk) : (w.upM i m).mark i = m := by simp [Wk.upM]
theorem upM_upM (w : Wk) (i : Nat) (m m' : Mk) : (w.upM i m).upM i m' = w.upM i m' := by
  unfold Wk.upM
  congr 1
  funext j
  by_cases h : j = i <;> simp [h]
theorem upM_self (w : Wk) (i : Nat) : w.upM i (w.mark i) = w := by
  unfold Wk.upM
  have : (fun j => if j = i then w.mark i else w.mark j) = w.mark := by
    funext j
    by_cases h : j = i
    · subst h; simp
    · simp [h]
  rw [this]
theorem violate_ok (k : K) (w : Wk) (i : Nat) (hi : i < k.clauses.length) : DoesM Tryz.prog 77 [.ptr 0 0, .c (.int .i64 i)] (wOs k w) (.tup []) (wOs k (w.upM i (violM (w.mark i)))) := by
  refine DoesM.mk (fun _ => false) 100 TT_ok Tryz.func77 rfl (by kernel_rfl) Tryz.ntmps77 rfl rfl rfl fun E hT hE hN hR => ?_
  have hm := mixO hE
  have fm : w.mark (i : Int).toNat = w.mark i := rfl
  unfold violM
  (repeat (first | refine XK.n ?_ | refine XK.a ?_ | refine XK.b ?_)); refine XK.cond rfl (fun h => ?_) (fun h => ?_) <;> (try simp at h)
  · rw [if_neg (show ¬ (w.mark i).paused = true by rw [show (w.mark i).paused = false from h]; simp)]
    (repeat (first | refine XK.n ?_ | refine XK.a ?_ | refine XK.b ?_))
    (repeat (first | refine XK.n ?_ | refine XK.a ?_ | refine XK.b ?_)); refine XK.region ?_; refine XL.g ?_
    refine XL.callMA [0, 1, 2, 3] hE rfl rfl rfl rfl trivial (wend_ok k w i 4 hi) rfl rfl rfl rfl rfl ?_
    refine XL.g ?_; refine XL.fin ?_; (repeat (first | refine XK.n ?_ | refine XK.a ?_ | refine XK.b ?_))
    (first | refine XK.outR [0, 1, 2, 3] hN rfl rfl rfl ?_ rfl rfl ?_ | refine XK.outRN [0, 1, 2, 3] hN rfl rfl rfl ?_ rfl rfl ?_)
    · exact frI
    · exact frI
  · rw [if_pos (show (w.mark i).paused = true from h), upM_self]
    (repeat (first | refine XK.n ?_ | refine XK.a ?_ | refine XK.b ?_))
    (first | refine XK.outR [0, 1, 2, 3] hN rfl rfl rfl ?_ rfl rfl ?_ | refine XK.outRN [0, 1, 2, 3] hN rfl rfl rfl ?_ rfl rfl ?_)
    · exact frI
    · exact frI
theorem perform_ok (k : K) (hk : KFacts k) (w : Wk) (i : Nat) (hi : i < k.clauses.length) (hg : 0 ≤ (w.mark i).got ∧ (w.mark i).got ≤ 1000) : DoesM Tryz.prog 76 [.ptr 0 0, .c (.int .i64 i)] (wOs k w) (.tup []) (wOs k (w.upM i (performM (clAt k i) (w.mark i)))) := by
  refine DoesM.mk (fun _ => false) 100 TT_ok Tryz.func76 rfl (by kernel_rfl) Tryz.ntmps76 rfl rfl rfl fun E hT hE hN hR => ?_
  have hm := mixO hE
  have fm : w.mark (i : Int).toNat = w.mark i := rfl
  have fc : k.clauses.getD (i : Int).toNat default = clAt k i := rfl
  have f2 : (w.upM i (moreM (w.mark i))).mark (i : Int).toNat = moreM (w.mark i) := upM_same w i _
  unfold performM
  (repeat (first | refine XK.n ?_ | refine XK.a ?_ | refine XK.b ?_))
  refine XK.weak (Weak.of (L := [(0, .ptr 0 0), (1, .c (.int .i64 i))]) (O := wN k (w.upM i (moreM (w.mark i)))) (nx := 1000) (nt := 38) (md := fun _ => false) hN rfl rfl rfl frI (by (repeat' (first | exact rfl | exact AvIs.refl _ | exact trivial | exact fun _ _ => rfl | exact fun _ _ => ⟨rfl, AvIs.refl _⟩ | exact fun _ hi => absurd hi (Nat.not_lt_zero _) | (intro i hi; cases Nat.lt_one_iff.1 hi; rfl) | (intro j hj; by_cases hji : j = (i); (· subst hji; simp [setRowF, setL, mkC, Wk.upM, moreM]; done); (· simp [setRowF, beq_false hji, Wk.upM, moreM, hji, lt_succ_ne hji]; done)) | refine ⟨?_, ?_⟩)))) ?_
  (repeat (first | refine XK.n ?_ | refine XK.a ?_ | refine XK.b ?_))
  rw [f2, fc]
  (repeat (first | refine XK.n ?_ | refine XK.a ?_ | refine XK.b ?_)); refine XK.cond rfl (fun h => ?_) (fun h => ?_) <;> (try simp at h)
  · have h : (w.mark i).got + 1 = (clAt k i).need := h
    rw [if_pos h]
    (repeat (first | refine XK.n ?_ | refine XK.a ?_ | refine XK.b ?_))
    (repeat (first | refine XK.n ?_ | refine XK.a ?_ | refine XK.b ?_)); refine XK.region ?_; refine XL.g ?_
    refine XL.callMA [0, 1, 2, 3] hE rfl rfl rfl rfl trivial (wend_ok k (w.upM i (moreM (w.mark i))) i 3 hi) rfl rfl rfl rfl rfl ?_
    refine XL.g ?_; refine XL.fin ?_; (repeat (first | refine XK.n ?_ | refine XK.a ?_ | refine XK.b ?_))
    rw [upM_same, upM_upM]
    (first | refine XK.outR [0, 1, 2, 3] hN rfl rfl rfl ?_ rfl rfl ?_ | refine XK.outRN [0, 1, 2, 3] hN rfl rfl rfl ?_ rfl rfl ?_)
    · exact frI
    · exact frI
  · have h : ¬ (w.mark i).got + 1 = (clAt k i).need := h
    rw [if_neg h]
    (repeat (first | refine XK.n ?_ | refine XK.a ?_ | refine XK.b ?_))
    (first | refine XK.outR [0, 1, 2, 3] hN rfl rfl rfl ?_ rfl rfl ?_ | refine XK.outRN [0, 1, 2, 3] hN rfl rfl rfl ?_ rfl rfl ?_)
    · exact frI
    · exact frI
theorem expire_ok (k : K) (hk : KFacts k) (w : Wk) (i : Nat) (hi : i < k.clauses.length) : DoesM Tryz.prog 71 [.ptr 0 0, .c (.int .i64 i)] (wOs k w) (.tup []) (wOs k (w.upM i (expM (clAt k i) (w.mark i)))) := by
  refine DoesM.mk (fun _ => false) 100 TT_ok Tryz.func71 rfl (by kernel_rfl) Tryz.ntmps71 rfl rfl rfl fun E hT hE hN hR => ?_
  have hm := mixO hE
  have fm : w.mark (i : Int).toNat = w.mark i := rfl
  have fc : k.clauses.getD (i : Int).toNat default = clAt k i := rfl
  unfold expM
  (repeat (first | refine XK.n ?_ | refine XK.a ?_ | refine XK.b ?_))
  rw [fm, fc]
  (repeat (first | refine XK.n ?_ | refine XK.a ?_ | refine XK.b ?_)); refine XK.cond rfl (fun h => ?_) (fun h => ?_) <;> (try simp at h)
  · rw [if_pos h]
    (repeat (first | refine XK.n ?_ | refine XK.a ?_ | refine XK.b ?_))
    (first | refine XK.outR [0, 1, 2, 3] hN rfl rfl rfl ?_ rfl rfl ?_ | refine XK.outRN [0, 1, 2, 3] hN rfl rfl rfl ?_ rfl rfl ?_)
    · (repeat' (first | exact rfl | exact AvIs.refl _ | exact trivial | exact fun _ _ => rfl | exact fun _ _ => ⟨rfl, AvIs.refl _⟩ | exact fun _ hi => absurd hi (Nat.not_lt_zero _) | (intro i hi; cases Nat.lt_one_iff.1 hi; rfl) | (intro j hj; by_cases hji : j = (i); (· subst hji; simp [setRowF, setL, mkC, Wk.upM, clAt]; done); (· simp [setRowF, beq_false hji, Wk.upM, clAt, hji, lt_succ_ne hji]; done)) | refine ⟨?_, ?_⟩))
    · exact frI
  · rw [if_neg (by simpa using h)]
    (repeat (first | refine XK.n ?_ | refine XK.a ?_ | refine XK.b ?_))
    (repeat (first | refine XK.n ?_ | refine XK.a ?_ | refine XK.b ?_)); refine XK.region ?_; refine XL.g ?_
    refine XL.callMA [0, 1, 2, 3] hE rfl rfl rfl rfl trivial (wend_ok k w i 4 hi) rfl rfl rfl rfl rfl ?_
    refine XL.g ?_; refine XL.fin ?_; (repeat (first | refine XK.n ?_ | refine XK.a ?_ | refine XK.b ?_))
    (first | refine XK.outR [0, 1, 2, 3] hN rfl rfl rfl ?_ rfl rfl ?_ | refine XK.outRN [0, 1, 2, 3] hN rfl rfl rfl ?_ rfl rfl ?_)
    · exact frI
    · exact frI
end
section
open Go.Eng
theorem pass_hold {k : K} {w : Wk} {n : Nat} (h : n ≤ k.clauses.length) : (passTo k w n).1.hold = w.hold := (pass_rel n h).hold
theorem wstart_ok (k : K) (hk : KFacts k) (w : Wk) : DoesM Tryz.prog 36 [.ptr 0 0] (wOs k w) (.tup []) (wOs k (startW k w)) := by
  refine DoesM.mk (fun _ => false) 100 TT_ok Tryz.func36 rfl (by kernel_rfl) Tryz.ntmps36 rfl rfl rfl fun E hT hE hN hR => ?_
  have hm := mixO hE
  have hnc := hk.nc
  (repeat (first | refine XK.n ?_ | refine XK.a ?_ | refine XK.b ?_))
  refine XK.loop (ι := Nat × Wk × Bool) (fun q => ST.of [(0, .ptr 0 0), (2, .c (.bool q.2.2))] (wN k q.2.1) 1000 53 (fun _ => false))
    (fun q => (q.2.2 = true → startN k q.1 q.2.1 = startW k w ∧ idleN k q.2.1.mark < q.1) ∧ (q.2.2 = false → q.2.1 = startW k w)) (fun q => if q.2.2 = true then q.1 + 1 else 0) (idleN k w.mark + 1, w, true)
    ⟨fun _ => ⟨rfl, Nat.lt_succ_self _⟩, fun h => nomatch h⟩
    (Weak.of hN rfl rfl rfl frI frI) fun q hq => ?_
  obtain ⟨f, w1, b⟩ := q
  obtain ⟨g1, g2⟩ := hq
  dsimp only at g1 g2
  dsimp only
  (repeat (first | refine XK.n ?_ | refine XK.a ?_ | refine XK.b ?_)); refine XK.cond rfl (fun hb => ?_) (fun hb => ?_)
  · have hb : b = true := hb
    subst hb
    obtain ⟨g1, g3⟩ := g1 rfl
    clear g2
    obtain ⟨f, rfl⟩ : ∃ f', f = f' + 1 := ⟨f - 1, by omega⟩
    (repeat (first | refine XK.n ?_ | refine XK.a ?_ | refine XK.b ?_))
    refine XK.loop (ι := Nat) (fun i => ST.of [(0, .ptr 0 0), (2, .c (.bool (passTo k w1 i).2)), (11, clsV k.clauses), (12, .c (.int .i64 k.clauses.length)), (13, .c (.int .i64 i))] (wN k (passTo k w1 i).1) 2000 53 (fun _ => false))
      (fun i => i ≤ k.clauses.length) (fun i => k.clauses.length - i) 0 (Nat.zero_le _)
      (Weak.of hN rfl rfl rfl frI frI) fun i hi => ?_
    (repeat (first | refine XK.n ?_ | refine XK.a ?_ | refine XK.b ?_)); refine XK.cond rfl (fun hlt => ?_) (fun hlt => ?_) <;> (try simp at hlt)
    · have fc : k.clauses.getD (i : Int).toNat default = clAt k i := rfl
      have hkf := kindW (hk.clB hlt).2.2.1
      have hp : passTo k w1 (i + 1) = if rdyB k (passTo k w1 i).1.mark i = true then ((passTo k w1 i).1.upM i (liveM k (passTo k w1 i).1.hold i), true) else passTo k w1 i := rfl
      generalize passTo k w1 i = p at *
      obtain ⟨w2, b2⟩ := p
      dsimp only at hp
      dsimp only
      (repeat (first | refine XK.n ?_ | refine XK.a ?_ | refine XK.b ?_))
      have hr := readyM_ok k hk w2 i hlt
      have hrt := fun h => (rdyB_true (k := k) (mk := w2.mark) (i := i) h).1
      generalize hrb : rdyB k w2.mark i = rb at *
      refine XK.weak (Weak.of (L := [(0, .ptr 0 0), (2, .c (.bool b2)), (3, .c (.int .i64 i)), (4, .ptr 2057 0), (11, clsV k.clauses), (12, .c (.int .i64 k.clauses.length)), (13, .c (.int .i64 i))]) (O := (2057, .cells 56 (clC (clAt k i))) :: wN k w2) (nx := 3000) (nt := 53) (md := fun _ => false) hN rfl rfl rfl frI frI) ?_
      (repeat (first | refine XK.n ?_ | refine XK.a ?_ | refine XK.b ?_)); refine XK.drawn hm ?_; refine XD.goA hT rfl rfl rfl rfl ?_
      refine XD.callMA [1, 2, 3] hE rfl rfl rfl rfl trivial (hr) rfl rfl rfl rfl rfl ?_
      refine XD.goA hT rfl rfl rfl rfl ?_; refine XD.fin (by kernel_rfl) ?_; (repeat (first | refine XK.n ?_ | refine XK.a ?_ | refine XK.b ?_))
      (repeat (first | refine XK.n ?_ | refine XK.a ?_ | refine XK.b ?_)); refine XK.cond rfl (fun h1 => ?_) (fun h1 => ?_)
      · have h1 : rb = false := by simpa using h1
        subst h1
        rw [if_neg (by simp)] at hp
        (repeat (first | refine XK.n ?_ | refine XK.a ?_ | refine XK.b ?_))
        refine XK.inv ⟨i + 1, hlt, ?_, by omega⟩
        rw [hp]
        exact (Weak.of hN rfl rfl rfl frI frI)
      · have h1 : rb = true := by simpa using h1
        subst h1
        rw [if_pos rfl] at hp
        have hb := hk.clB hlt
        (repeat (first | refine XK.n ?_ | refine XK.a ?_ | refine XK.b ?_)); refine XK.join (ST.of [(0, .ptr 0 0), (2, .c (.bool b2)), (3, .c (.int .i64 i)), (4, .ptr 2057 0), (5, .c (.int .i64 (liveM k w2.hold i).bearer)), (11, clsV k.clauses), (12, .c (.int .i64 k.clauses.length)), (13, .c (.int .i64 i))] ((2057, .cells 56 (clC (clAt k i))) :: wN k w2) 4000 53 (fun _ => false)) rfl (fun h3 => ?_) (fun h3 => ?_) ?_
        · have h3 : (clAt k i).kind ≠ 4 := by simpa using h3
          have hro : 0 ≤ (clAt k i).role ∧ (clAt k i).role < k.holders.length := by
            rcases hkf with h | h
            · exact absurd h.1 h3
            · exact h.1
          have e : (liveM k w2.hold i).bearer = w2.hold (clAt k i).role.toNat := by simp [liveM, h3]
          rw [e]
          (repeat (first | refine XK.n ?_ | refine XK.a ?_ | refine XK.b ?_))
          exact XK.inv (Weak.of hN rfl rfl rfl frI frI)
        · have h3 : (clAt k i).kind = 4 := by simpa using h3
          have e : (liveM k w2.hold i).bearer = -1 := by simp [liveM, h3]
          rw [e]
          (repeat (first | refine XK.n ?_ | refine XK.a ?_ | refine XK.b ?_))
          exact XK.inv (Weak.of hN rfl rfl rfl frI frI)
        (repeat (first | refine XK.n ?_ | refine XK.a ?_ | refine XK.b ?_))
        refine XK.inv ⟨i + 1, hlt, ?_, by omega⟩
        rw [hp]
        exact (Weak.of hN rfl rfl rfl frI (by (repeat' (first | exact rfl | exact AvIs.refl _ | exact trivial | exact fun _ _ => rfl | exact fun _ _ => ⟨rfl, AvIs.refl _⟩ | exact fun _ hi => absurd hi (Nat.not_lt_zero _) | (intro i hi; cases Nat.lt_one_iff.1 hi; rfl) | (intro j hj; by_cases hji : j = (i); (· subst hji; simp [setRowF, setL, mkC, Wk.upM, liveM]; done); (· simp [setRowF, beq_false hji, Wk.upM, liveM, hji, lt_succ_ne hji]; done)) | refine ⟨?_, ?_⟩))))
    · have hie : i = k.clauses.length := by omega
      subst hie
      have hl := fun h => pass_less (k := k) (w := w1) k.clauses.length (Nat.le_refl _) h
      have hn := fun h => pass_none (k := k) (w := w1) k.clauses.length h
      rw [startN] at g1
      generalize passTo k w1 k.clauses.length = p at *
      obtain ⟨w2, b2⟩ := p
      dsimp only at hl hn g1
      dsimp only
      (repeat (first | refine XK.n ?_ | refine XK.a ?_ | refine XK.b ?_))
      refine XK.inv ⟨(f, w2, b2), ⟨fun h => ?_, fun h => ?_⟩, (Weak.of hN rfl rfl rfl frI frI), ?_⟩
      · have h : b2 = true := h
        rw [if_pos h] at g1
        have := hl h
        exact ⟨g1, by show idleN k w2.mark < f; omega⟩
      · have h : b2 = false := h
        rw [if_neg (by rw [h]; simp)] at g1
        have := congrArg Prod.fst (hn h).1
        show w2 = _
        rw [← g1]
        exact this
      · dsimp only
        cases b2 <;> simp
  · have hb : b = false := hb
    subst hb
    have g2 := g2 rfl
    subst g2
    (repeat (first | refine XK.n ?_ | refine XK.a ?_ | refine XK.b ?_))
    (first | refine XK.outR [0, 1, 2, 3] hN rfl rfl rfl ?_ rfl rfl ?_ | refine XK.outRN [0, 1, 2, 3] hN rfl rfl rfl ?_ rfl rfl ?_)
    · exact frI
    · exact frI
end
end Go.Proofs.YtlcfoelfcnhenaaGreatDoor
