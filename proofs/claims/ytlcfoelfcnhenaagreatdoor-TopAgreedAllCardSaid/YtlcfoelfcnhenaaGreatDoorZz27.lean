import Derived.Test.YtlcfoelfcnhenaaGreatDoorZz14
import Derived.Test.YtlcfoelfcnhenaaGreatDoorZz26
import Derived.Test.YtlcfoelfcnhenaaGreatDoorZz23
import Derived.Test.YtlcfoelfcnhenaaGreatDoorZz17
set_option linter.unusedSimpArgs false
set_option linter.unusedVariables false
set_option maxRecDepth 10000
namespace Go.Proofs.YtlcfoelfcnhenaaGreatDoor
section
open Go.Eng Go.RowKit Go.Lib Go.Sort
theorem nodup_sub {α : Type} : ∀ (l m : List α), l.Nodup → (∀ x ∈ l, x ∈ m) → l.length ≤ m.length
  | [], _, _, _ => Nat.zero_le _
  | a :: l, m, h, hs => by
    obtain ⟨s, t, rfl⟩ := List.append_of_mem (hs a List.mem_cons_self)
    rw [List.nodup_cons] at h
    have ih := nodup_sub l (s ++ t) h.2 fun x hx => by
      have h1 := hs x (List.mem_cons_of_mem _ hx)
      have h2 : x ≠ a := fun e => h.1 (e ▸ hx)
      simp only [List.mem_append, List.mem_cons] at h1 ⊢
      rcases h1 with h1 | h1 | h1
      · exact .inl h1
      · exact absurd h1 h2
      · exact .inr h1
    simp only [List.length_append, List.length_cons] at ih ⊢
    omega
structure SeenOk (es : List (Value × Nat)) (seen : Array Nat) : Prop where
  nd : seen.toList.Nodup
  sub : ∀ x ∈ seen.toList, x ∈ es.map (·.2)
theorem SeenOk.nil {es : List (Value × Nat)} : SeenOk es #[] := ⟨List.nodup_nil, fun x h => by cases h⟩
theorem SeenOk.le {es : List (Value × Nat)} {seen : Array Nat} (h : SeenOk es seen) : seen.size ≤ es.length := by
  have := nodup_sub _ _ h.nd h.sub
  simpa using this
theorem SeenOk.push {es : List (Value × Nat)} {seen : Array Nat} (h : SeenOk es seen) {j : Nat} (hj : j < es.length) (hn : es[j].2 ∉ seen.toList) : SeenOk es (seen.push es[j].2) := by
  constructor
  · rw [Array.toList_push, List.nodup_append]
    refine ⟨h.nd, by simp, fun a ha b hb e => ?_⟩
    rw [List.mem_singleton] at hb
    subst hb e
    exact hn ha
  · intro x hx
    rw [Array.toList_push, List.mem_append, List.mem_singleton] at hx
    rcases hx with hx | rfl
    · exact h.sub x hx
    · exact List.mem_map.2 ⟨_, List.getElem_mem hj, rfl⟩
theorem prT_some {n : Int} {l : List Lt} : ∀ {i : Nat}, i ≤ l.length → ∀ {v : Value} {p : Px}, prT n l i v = some p → ∃ x ∈ l, ofB 1 n x = true ∧ p = ⟨x, digS x, 0⟩ ∧ keyEq v (.string (digS x)) = true
  | 0, _, v, p, h => by cases h
  | i + 1, hi, v, p, h => by
    have hx := getD_memT (l := l) (i := i) (by omega)
    simp only [prT, prStep] at h
    split at h
    · rename_i h1
      split at h
      · unfold prPut at h
        cases hk : keyEq v (.string (digS (l.getD i default))) with
        | true =>
          rw [hk, cond_true] at h
          injection h with h
          exact ⟨_, hx, h1, h.symm, hk⟩
        | false =>
          rw [hk, cond_false] at h
          exact prT_some (by omega) h
      · exact prT_some (by omega) h
    · exact prT_some (by omega) h
theorem acT_none {n : Int} {l : List Lt} {q : Int} (hq : ∀ x ∈ l, x.party = q → x.kind ≠ 2) : ∀ {i : Nat}, i ≤ l.length → ∀ m s, acT n l i (acK q m s) = none
  | 0, _, m, s => rfl
  | i + 1, hi, m, s => by
    have hx := getD_memT (l := l) (i := i) (by omega)
    have ih := acT_none (n := n) hq (i := i) (by omega) m s
    simp only [acT, acStep]
    split
    · rename_i h1
      split
      · unfold acPut
        cases hk : keyEq (acK q m s) (acK (l.getD i default).party (l.getD i default).number (l.getD i default).sum) with
        | false => exact ih
        | true =>
          exfalso
          have := (keyEq_iff (kk := kkA) rfl rfl).1 hk
          simp only [acK, Value.agg.injEq, Array.mk.injEq, List.cons.injEq, Value.int.injEq] at this
          unfold ofB at h1
          simp only [Bool.and_eq_true, beq_iff_eq] at h1
          exact hq _ hx this.1.2.symm h1.1.1
      · exact ih
    · exact ih
theorem prT_len {n : Int} {l : List Lt} {es : List (Value × Nat)} {clock : Nat} (hp : PinOk .str (fun v => (prT n l l.length v).isSome) es clock) : es.length ≤ l.length := by
  have h1 := nodup_sub (es.map (·.1)) (l.map fun x => Value.string (digS x)) hp.nk fun v hv => by
    obtain ⟨x, hx, rfl⟩ := List.mem_map.1 hv
    have hk := hp.key x hx
    have hd := (hp.dom x.1 hk).2 ⟨x.2, hx⟩
    obtain ⟨p, hpp⟩ := Option.isSome_iff_exists.1 hd
    obtain ⟨y, hy, _, _, h2⟩ := prT_some (Nat.le_refl _) hpp
    rw [(keyEq_iff (kk := .str) hk rfl).1 h2]
    exact List.mem_map.2 ⟨y, hy, rfl⟩
  simpa using h1
end
section
open Go.Eng Go.RowKit Go.Lib Go.Sort
def famP (W : Nat → List Px) (m : Nat) : Nat × (Nat → List AV) := ((W m).length, fun i => pxC ((W m).getD i default))
structure BsS where
  W : Nat → List Px
  d : Value → Bool
def bsPut (s : BsS) (p : Px) : BsS := ⟨putW s.W (encS (slK p.l.party p.l.number)) p, fun u => keyEq u (slK p.l.party p.l.number) || s.d u⟩
def bsOk (s : BsS) (n : Nat) : Prop := ∀ m, (s.W m).length ≤ n ∧ ∀ p ∈ s.W m, p.known < 0
theorem bsOk.put {s : BsS} {n : Nat} (h : bsOk s n) {p : Px} (hp : p.known < 0) : bsOk (bsPut s p) (n + 1) := fun m => by
  obtain ⟨h1, h2⟩ := h m
  show ((putW s.W _ p) m).length ≤ n + 1 ∧ ∀ q ∈ (putW s.W _ p) m, q.known < 0
  unfold putW
  split
  · refine ⟨by simp; omega, fun q hq => ?_⟩
    rcases List.mem_append.1 hq with hq | hq
    · exact h2 q hq
    · rw [List.mem_singleton.1 hq]; exact hp
  · exact ⟨by omega, h2⟩
def bsO (s : BsS) : Ob := .mapb kkS (.slice none 0 0) s.d (fun v => psV (s.W (encS v)))
theorem ksL_px (p : Nat → Bool) (g : Value → Px) : ∀ es : List (Value × Nat), AV.ksL p (es.map fun x => pxV (g x.1)) = true
  | [] => rfl
  | x :: es => by
    rw [List.map_cons, AV.ksL, ksL_px p g es]; rfl
theorem ksL_ps (p : Nat → Bool) (g : Value → List Px) : ∀ es : List (Value × Nat), AV.ksL p (es.map fun x => psV (g x.1)) = true
  | [] => rfl
  | x :: es => by
    rw [List.map_cons, AV.ksL, ksL_ps p g es]; rfl
theorem slK_is (a b : Int) : AvS (.c (slK a b)) (.agg [.c (.int .i64 a), .c (.int .i64 b)]) := by
  intro w G ρ v h
  rw [h.c_inv]
  refine .agg rfl fun i x hx => ?_
  rcases i with _ | _ | i
  · injection hx with hx; subst hx; exact .c
  · injection hx with hx; subst hx; exact .c
  · simp at hx
theorem Weak.frS {E : Env} {st : ST} (d : Nat) {x y : AV} (hd : st.fr d = x) (h : AvS x y) : Weak E st { st with fr := upd st.fr d y } := by
  rintro a w ⟨ρ, hs⟩
  refine ⟨ρ, hs.keep, hs.tsz, hs.dfr, hs.gl, fun k => ?_, hs.ob, hs.no, hs.dis, hs.own, hs.le⟩
  by_cases hk : k = d
  · subst hk
    show R w _ ρ (upd st.fr k y k) _
    rw [upd_same]
    exact h _ _ _ _ (hd ▸ hs.fr k)
  · show R w _ ρ (upd st.fr d y k) _
    rw [upd_other _ _ hk]
    exact hs.fr k
set_option maxHeartbeats 4000000 in
theorem agreedNo_ok (n : Int) (l : List Lt) (hl : ∀ x ∈ l, ltW x) (q : Nat) (hq : (q : Int) < n) (hqk : ∀ x ∈ l, x.party = q → x.kind ≠ 1 ∧ x.kind ≠ 2) : Does Tryz.prog 7 [.c (.int .i64 n), ltsV l] (amsV []) := by
  refine Does.mk (fun _ => false) TT_ok Tryz.func7 rfl (by kernel_rfl) Tryz.ntmps7 rfl rfl fun E hT hE hN hR => ?_
  have hm := mixO hE
  (repeat (first | refine XK.n ?_ | refine XK.a ?_ | refine XK.b ?_)); refine XK.cond rfl (fun h1 => ?_) (fun h1 => ?_) <;> (try simp at h1)
  · (repeat (first | refine XK.n ?_ | refine XK.a ?_ | refine XK.b ?_))
    (first | refine XK.outL rfl rfl rfl ?_ | refine XK.outLN rfl rfl rfl ?_)
    exact ⟨rfl, rfl⟩
  obtain ⟨⟨g1, g2⟩, g3⟩ := h1
  have g3 : l.length ≤ 4000 := by omega
  have hac := fun m s => acT_none (n := n) (q := q) (fun x hx hp => (hqk x hx hp).2) (Nat.le_refl l.length) m s
  have hpr : ∀ v p, prT n l l.length v = some p → p.l.party ≠ q ∧ p.known = 0 := fun v p h => by
    obtain ⟨x, hx, h2, rfl, _⟩ := prT_some (Nat.le_refl _) h
    refine ⟨fun e => ?_, rfl⟩
    unfold ofB at h2
    simp only [Bool.and_eq_true, beq_iff_eq] at h2
    exact (hqk x hx e).1 h2.1.1
  (repeat (first | refine XK.n ?_ | refine XK.a ?_ | refine XK.b ?_))
  (repeat (first | refine XK.n ?_ | refine XK.a ?_ | refine XK.b ?_)); refine XK.region ?_; refine XL.g ?_
  refine XL.callMA [901] hE rfl rfl rfl rfl trivial (proposals_ok n l hl g3) rfl rfl rfl rfl rfl ?_
  refine XL.g ?_; refine XL.fin ?_; (repeat (first | refine XK.n ?_ | refine XK.a ?_ | refine XK.b ?_))
  (repeat (first | refine XK.n ?_ | refine XK.a ?_ | refine XK.b ?_)); refine XK.region ?_; refine XL.g ?_
  refine XL.callMA [902] hE rfl rfl rfl rfl trivial (acceptances_ok n l hl g3) rfl rfl rfl rfl rfl ?_
  refine XL.g ?_; refine XL.fin ?_; (repeat (first | refine XK.n ?_ | refine XK.a ?_ | refine XK.b ?_))
  generalize acT n l l.length = ac at *
  have hlen := fun es clock => prT_len (n := n) (l := l) (es := es) (clock := clock)
  generalize prT n l l.length = pr at *
  refine XK.weak (Weak.of (L := [(0, .c (.int .i64 n)), (1, ltsV l), (6, .mp 902), (7, .mp 519), (5, .mp 901)]) (O := [(901, prO pr), (902, acO ac), (519, .mapb kkS (.slice none 0 0) (fun _ => false) (fun _ => .c (.slice none 0 0)))]) (nx := 1000) (nt := 120) (md := fun _ => false) hN rfl rfl rfl frI frI) ?_
  refine XK.pin (m := 901) rfl fun b es clock hpin => ?_
  have hel := hlen es clock hpin
  have hks : ∀ p, AV.ksL p (es.map fun x => pxV ((pr x.1).getD dPx)) = true := fun p => ksL_px p (fun v => (pr v).getD dPx) es
  refine XK.region ?_
  refine XL.g ?_
  refine XL.range (m := 901) hT rfl rfl rfl rfl rfl rfl rfl rfl rfl fun bi => ?_
  refine XL.fin ?_
  (repeat (first | refine XK.n ?_ | refine XK.a ?_ | refine XK.b ?_))
  refine XK.loop (ι := Array Nat × BsS) (fun z => ⟨mkFr [(0, .c (.int .i64 n)), (1, ltsV l), (6, .mp 902), (7, .mp 519), (41, .ptr 1041 0)], obF 1000000 70 27 (famP z.2.W) ((519, mapF 1000000 kkS z.2.d encS) :: [(1041, .lrec (itk b clock z.1 clock) bi []), (901, .lrec (pmk es clock) b (es.map fun x => pxV ((pr x.1).getD dPx))), (902, acO ac)]), 2000, 120, (fun _ => false)⟩)
    (fun z => SeenOk es z.1 ∧ bsOk z.2 z.1.size) (fun z => es.length - z.1.size) (#[], ⟨fun _ => [], fun _ => false⟩) ⟨SeenOk.nil, fun m => ⟨Nat.le_refl _, fun p hp => by cases hp⟩⟩
    (Weak.trans (Weak.of (L := [(0, .c (.int .i64 n)), (1, ltsV l), (6, .mp 902), (7, .mp 519), (41, .ptr 1041 0)]) (O := (519, .mapb kkS (.slice none 0 0) (fun _ => false) (fun _ => .c (.slice none 0 0))) :: [(1041, .lrec (itk b clock #[] clock) bi []), (901, .lrec (pmk es clock) b (es.map fun x => pxV ((pr x.1).getD dPx))), (902, acO ac)]) (nx := 2000) (nt := 120) (md := fun _ => false) hN rfl (by simp only [keptAll, List.all_cons, List.all_nil, Ob.ks, hks]; rfl) rfl frI frI)
      (Weak.famIn encS (famP fun _ => []) (fun m => rfl) hN rfl (by simp only [keptF, List.all_cons, List.all_nil, Ob.ks, hks]; rfl) (fun _ => rfl))) fun z hz => ?_
  obtain ⟨seen, s⟩ := z
  obtain ⟨hsn, hbs⟩ := hz
  dsimp only at hsn hbs ⊢
  have hsl := hsn.le
  refine XK.norm rfl rfl ?_
  refine XK.region ?_
  refine XL.next (m := 901) rfl rfl rfl rfl rfl rfl rfl (by simp) hpin.lt (Nat.le_refl _) (fun j hj x hx hns => ?_) (fun hall => ?_)
  · simp only [List.getElem?_map, List.getElem?_eq_getElem hj, Option.map_some, Option.some.injEq] at hx
    subst hx
    have hdj := (hpin.dom es[j].1 (hpin.key _ (List.getElem_mem hj))).2 ⟨es[j].2, List.getElem_mem hj⟩
    obtain ⟨p0, hp0⟩ := Option.isSome_iff_exists.1 hdj
    obtain ⟨hpq, hpk⟩ := hpr _ _ hp0
    have hsn' := hsn.push hj hns
    have hsl' := hsn'.le
    have hxj : (es.map fun x => pxV ((pr x.1).getD dPx))[j]? = some (pxV p0) := by
      rw [List.getElem?_map, List.getElem?_eq_getElem hj, Option.map_some, hp0]; rfl
    rw [show (pr es[j].1).getD dPx = p0 by rw [hp0]; rfl]
    refine XL.g ?_
    refine XL.fin ?_
    (repeat (first | refine XK.n ?_ | refine XK.a ?_ | refine XK.b ?_)); refine XK.cond rfl (fun hb1 => ?_) (fun hb1 => ?_)
    rotate_left
    · cases hb1
    refine XK.norm rfl rfl ?_
    refine XK.region ?_
    refine XL.entry (last := 0) (j := j) (m := 901) (x := pxV p0) rfl rfl rfl rfl rfl hj rfl rfl (by simp) hpin.nb hxj ?_
    refine XL.g ?_
    refine XL.fin ?_
    (repeat (first | refine XK.n ?_ | refine XK.a ?_ | refine XK.b ?_))
    (repeat (first | refine XK.n ?_ | refine XK.a ?_ | refine XK.b ?_)); refine XK.region ?_; refine XL.g ?_
    refine XL.callMA [902] hE rfl rfl rfl rfl trivial (knownNo_ok p0 n ac q hq (fun e => hpq e.symm) (hac _ _) g2) rfl rfl rfl rfl rfl ?_
    refine XL.g ?_; refine XL.fin ?_; (repeat (first | refine XK.n ?_ | refine XK.a ?_ | refine XK.b ?_))
    generalize hpp : ({ p0 with known := -1 } : Px) = p
    refine XK.weak (Weak.trans (Weak.famOf (B := 1000000) (k := 519) (e := 70) (sz := 27) (kk := kkS) (d := s.d) (enc := encS) (F := famP s.W) (L := [(0, .c (.int .i64 n)), (1, ltsV l), (6, .mp 902), (7, .mp 519), (41, .ptr 1041 0), (9, .ptr 2129 0), (10, .ptr 2370 0)]) (O := (2129, .cells 70 (pxC p)) :: (2370, .cells 73 [.c (.int .i64 p.l.party), .c (.int .i64 p.l.number)]) :: [(1041, .lrec (itk b clock (seen.push es[j].2) clock) bi []), (901, .lrec (pmk es clock) b (es.map fun x => pxV ((pr x.1).getD dPx))), (902, acO ac)]) (nx := 4000) (md := fun _ => false) hN rfl (by simp only [keptD, List.all_cons, List.all_nil, Ob.ks, hks]; rfl) frI (by subst hpp; (repeat' (first | exact rfl | exact AvIs.refl _ | exact trivial | exact fun _ _ => rfl | exact fun _ _ => ⟨rfl, AvIs.refl _⟩ | refine ⟨?_, ?_⟩))) rfl (fun j hj => by (try dsimp only); simp only [putAll]; (repeat (rw [upd_big hj rfl])); exact obF_ge hj))
      (Weak.famOpen 700 (slK p.l.party p.l.number) hN rfl (by simp only [keptF, List.all_cons, List.all_nil, Ob.ks, hks]; rfl) rfl rfl rfl rfl (by simp only [List.all_cons, List.all_nil, Ob.ks, hks]; rfl) rfl encS_inj)) ?_
    have hk0 : keyEq (slK p.l.party p.l.number) (slK p.l.party p.l.number) = true := keyEq_self (kk := kkS) rfl
    have hlv : (famP s.W (encS (slK p.l.party p.l.number))).1 ≤ 4000 := by
      have := (hbs (encS (slK p.l.party p.l.number))).1
      show (s.W _).length ≤ 4000
      omega
    have hpn : p.known < 0 := by rw [← hpp]; show (-1 : Int) < 0; decide
    (repeat (first | refine XK.n ?_ | refine XK.a ?_ | refine XK.b ?_)); refine XK.region ?_; refine XL.g ?_
    refine XL.mapEntry (v := slK p.l.party p.l.number) (kk := kkS) (m := 519) hT rfl rfl rfl rfl rfl rfl rfl rfl rfl rfl rfl rfl rfl fun c => ?_
    rw [hk0, cond_true]
    refine XL.g ?_
    refine XL.entryStore (v := slK p.l.party p.l.number) (n := c) (m := 519) rfl rfl rfl rfl rfl rfl rfl rfl List.mem_cons_self ?_
    refine XL.fin ?_
    (repeat (first | refine XK.n ?_ | refine XK.a ?_ | refine XK.b ?_))
    refine XK.inv ⟨(seen.push es[j].2, bsPut s p), ⟨hsn', by rw [Array.size_push]; exact hbs.put hpn⟩, ?_, by rw [Array.size_push] at hsl'; dsimp only; rw [Array.size_push]; omega⟩
    dsimp only
    refine Weak.famClose 700 (slK p.l.party p.l.number) (famP (bsPut s p).W) hN rfl (by simp only [keptC, List.all_cons, List.all_nil, Ob.ks, hks]; rfl) frV frI rfl rfl (fun j hj => by (try dsimp only); (repeat (rw [upd_big hj rfl])); exact obQ_ge hj) (fun v _ => ?_) (fun _ _ => rfl) ?_ ?_ ?_ rfl encS_inj
    · show (bif keyEq v (slK p.l.party p.l.number) then AV.vec 700 1 else bif keyEq v (slK p.l.party p.l.number) then AV.vec 700 0 else AV.vec (1000000 + encS v) 0) = _
      cases keyEq v (slK p.l.party p.l.number) <;> rfl
    · simp [famP, bsPut, putW]
    · intro i hi
      have e1 : (bsPut s p).W (encS (slK p.l.party p.l.number)) = s.W (encS (slK p.l.party p.l.number)) ++ [p] := by simp [bsPut, putW]
      show pxC (((bsPut s p).W (encS (slK p.l.party p.l.number))).getD i default) = _
      rw [e1]
      exact rowSn pxC _ p _ rfl i hi
    · intro j hj
      simp [famP, bsPut, putW, hj]
  · refine XL.g ?_
    refine XL.fin ?_
    (repeat (first | refine XK.n ?_ | refine XK.a ?_ | refine XK.b ?_)); refine XK.cond rfl (fun hb1 => ?_) (fun hb1 => ?_)
    · cases hb1
    (repeat (first | refine XK.n ?_ | refine XK.a ?_ | refine XK.b ?_))
    refine XK.weak (Weak.trans (Weak.famOf (B := 1000000) (k := 519) (e := 70) (sz := 27) (kk := kkS) (d := s.d) (enc := encS) (F := famP s.W) (L := [(0, .c (.int .i64 n)), (1, ltsV l), (7, .mp 519)]) (O := []) (nx := 6000) (md := fun _ => false) hN rfl rfl frI frI rfl (fun j hj => by (try dsimp only); (repeat (rw [upd_big hj rfl])); exact obF_ge hj))
      (Weak.trans (Weak.famOut hN rfl rfl) (Weak.of (L := [(0, .c (.int .i64 n)), (1, ltsV l), (7, .mp 519)]) (O := [(519, bsO s)]) (nx := 6000) (nt := 120) (md := fun _ => false) hN rfl rfl rfl frI frI))) ?_
    have hs4 : ∀ m, (s.W m).length ≤ 4000 := fun m => by have := (hbs m).1; omega
    clear hks hpin hel hsl hsn hall
    (repeat (first | refine XK.n ?_ | refine XK.a ?_ | refine XK.b ?_)); refine XK.region ?_; refine XL.g ?_
    refine XL.callMA [903] hE rfl rfl rfl rfl trivial (withdrawals_ok n l hl g3) rfl rfl rfl rfl rfl ?_
    refine XL.g ?_; refine XL.fin ?_; (repeat (first | refine XK.n ?_ | refine XK.a ?_ | refine XK.b ?_))
    generalize wdT n l l.length = wd
    
    refine XK.weak (Weak.of (L := [(7, .mp 519), (11, .mp 903), (12, .mp 6189)]) (O := [(519, bsO s), (903, wdO wd), (6189, .mapb (.int .i64) (.slice none 0 0) (fun _ => false) (fun _ => .c (.slice none 0 0)))]) (nx := 7000) (nt := 120) (md := fun _ => false) hN rfl rfl rfl frI frI) ?_
    refine XK.pin (m := 519) rfl fun b es clock hpin => ?_
    have hks : ∀ p, AV.ksL p (es.map fun x => psV (s.W (encS x.1))) = true := fun p => ksL_ps p (fun v => s.W (encS v)) es
    refine XK.region ?_
    refine XL.g ?_
    refine XL.range (m := 519) hT rfl rfl rfl rfl rfl rfl rfl rfl rfl fun bi => ?_
    refine XL.fin ?_
    (repeat (first | refine XK.n ?_ | refine XK.a ?_ | refine XK.b ?_))
    refine XK.loop (ι := Array Nat) (fun seen => ST.of [(11, .mp 903), (12, .mp 6189), (71, .ptr 7071 0)] [(7071, .lrec (itk b clock seen clock) bi []), (519, .lrec (pmk es clock) b (es.map fun x => psV (s.W (encS x.1)))), (903, wdO wd), (6189, .mapb (.int .i64) (.slice none 0 0) (fun _ => false) (fun _ => .c (.slice none 0 0)))] 8000 120 (fun _ => false))
      (fun seen => SeenOk es seen) (fun seen => es.length - seen.size) #[] SeenOk.nil (Weak.of hN rfl (by simp only [keptAll, List.all_cons, List.all_nil, Ob.ks, hks]; rfl) rfl frI frI) fun seen hsn => ?_
    have hsl := hsn.le
    refine XK.norm rfl rfl ?_
    refine XK.region ?_
    refine XL.next (m := 519) rfl rfl rfl rfl rfl rfl rfl (by simp) hpin.lt (Nat.le_refl _) (fun j hj x hx hns => ?_) (fun hall => ?_)
    · simp only [List.getElem?_map, List.getElem?_eq_getElem hj, Option.map_some, Option.some.injEq] at hx
      subst hx
      have hsn' := hsn.push hj hns
      have hsl' := hsn'.le
      have hxj : (es.map fun x => psV (s.W (encS x.1)))[j]? = some (psV (s.W (encS es[j].1))) := by
        rw [List.getElem?_map, List.getElem?_eq_getElem hj, Option.map_some]
      obtain ⟨ka, kb, hkey⟩ := kkS_inv (hpin.key _ (List.getElem_mem hj))
      have hG := (hbs (encS es[j].1)).2
      have hGl := hs4 (encS es[j].1)
      refine XL.g ?_
      refine XL.fin ?_
      (repeat (first | refine XK.n ?_ | refine XK.a ?_ | refine XK.b ?_)); refine XK.cond rfl (fun hb2 => ?_) (fun hb2 => ?_)
      rotate_left
      · cases hb2
      refine XK.norm rfl rfl ?_
      refine XK.region ?_
      refine XL.entry (last := 0) (j := j) (m := 519) (x := psV (s.W (encS es[j].1))) rfl rfl rfl rfl rfl hj rfl rfl (by simp) hpin.nb hxj ?_
      generalize s.W (encS es[j].1) = G at *
      rw [hkey]
      refine XL.weak (Weak.frS 74 (x := .tup [.c (slK ka kb), psV G]) (y := .tup [.agg [.c (.int .i64 ka), .c (.int .i64 kb)], psV G]) rfl (AvS.tupS ⟨slK_is ka kb, AvS.refl _, trivial⟩)) ?_
      refine XL.g ?_
      refine XL.fin ?_
      (repeat (first | refine XK.n ?_ | refine XK.a ?_ | refine XK.b ?_))
      refine XK.loop (ι := Nat) (fun k => ST.of [(11, .mp 903), (12, .mp 6189), (71, .ptr 7071 0), (13, .ptr 8133 0), (14, psV G), (77, psV G), (78, .c (.int .i64 G.length)), (79, .c (.int .i64 k))] ((8133, .cells 73 [.c (.int .i64 ka), .c (.int .i64 kb)]) :: [(7071, .lrec (itk b clock (seen.push es[j].2) clock) bi []), (519, .lrec (pmk es clock) b (es.map fun x => psV (s.W (encS x.1)))), (903, wdO wd), (6189, .mapb (.int .i64) (.slice none 0 0) (fun _ => false) (fun _ => .c (.slice none 0 0)))]) 9000 120 (fun _ => false))
        (fun k => k ≤ G.length) (fun k => G.length - k) 0 (Nat.zero_le _) (Weak.of hN rfl (by simp only [keptAll, List.all_cons, List.all_nil, Ob.ks, hks]; rfl) rfl frI frI) fun k hk => ?_
      (repeat (first | refine XK.n ?_ | refine XK.a ?_ | refine XK.b ?_)); refine XK.cond rfl (fun hlt => ?_) (fun hlt => ?_) <;> (try simp at hlt)
      · have fx : G.getD (k : Int).toNat default = G.getD k default := rfl
        have hpk := hG _ (getD_memT hlt)
        (repeat (first | refine XK.n ?_ | refine XK.a ?_ | refine XK.b ?_))
        rw [fx]
        generalize G.getD k default = p at *
        (repeat (first | refine XK.n ?_ | refine XK.a ?_ | refine XK.b ?_)); refine XK.drawn hm ?_; refine XD.goA hT rfl rfl rfl rfl ?_
        refine XD.callLA hE rfl rfl rfl rfl trivial rfl (validNo_ok p G (wd.W (encS (slK ka kb))) hpk) rfl ?_
        refine XD.goA hT rfl rfl rfl rfl ?_; refine XD.fin (by kernel_rfl) ?_; (repeat (first | refine XK.n ?_ | refine XK.a ?_ | refine XK.b ?_))
        (repeat (first | refine XK.n ?_ | refine XK.a ?_ | refine XK.b ?_)); refine XK.cond rfl (fun hv => ?_) (fun hv => ?_)
        · cases hv
        · (repeat (first | refine XK.n ?_ | refine XK.a ?_ | refine XK.b ?_))
          exact XK.inv ⟨k + 1, hlt, Weak.of hN rfl (by simp only [keptAll, List.all_cons, List.all_nil, Ob.ks, hks]; rfl) rfl frV frI, by omega⟩
      · (repeat (first | refine XK.n ?_ | refine XK.a ?_ | refine XK.b ?_))
        exact XK.inv ⟨seen.push es[j].2, hsn', Weak.of hN rfl (by simp only [keptAll, List.all_cons, List.all_nil, Ob.ks, hks]; rfl) rfl frI frI, by rw [Array.size_push] at hsl' ⊢; omega⟩
    · refine XL.g ?_
      refine XL.fin ?_
      (repeat (first | refine XK.n ?_ | refine XK.a ?_ | refine XK.b ?_)); refine XK.cond rfl (fun hb2 => ?_) (fun hb2 => ?_)
      · cases hb2
      (repeat (first | refine XK.n ?_ | refine XK.a ?_ | refine XK.b ?_))
      refine XK.weak (Weak.of (L := [(12, .mp 6189), (17, .c (.slice none 0 0))]) (O := [(6189, .mapb (.int .i64) (.slice none 0 0) (fun _ => false) (fun _ => .c (.slice none 0 0)))]) (nx := 20000) (nt := 120) (md := fun _ => false) hN rfl rfl rfl frI frI) ?_
      clear hks hpin hsl hsn hall
      (repeat (first | refine XK.n ?_ | refine XK.a ?_ | refine XK.b ?_))
      refine XK.pin (m := 6189) rfl fun b es clock hpin => ?_
      have hes : es = [] := by
        cases es with
        | nil => rfl
        | cons x es =>
          have h1 := (hpin.dom x.1 (hpin.key _ List.mem_cons_self)).2 ⟨x.2, List.mem_cons_self⟩
          cases h1
      subst hes
      refine XK.region ?_
      refine XL.g ?_
      refine XL.range (m := 6189) hT rfl rfl rfl rfl rfl rfl rfl rfl rfl fun bi => ?_
      refine XL.fin ?_
      (repeat (first | refine XK.n ?_ | refine XK.a ?_ | refine XK.b ?_))
      refine XK.loop (ι := Unit) (fun _ => ST.of [(17, .c (.slice none 0 0)), (101, .ptr 20101 0)] [(20101, .lrec (itk b clock #[] clock) bi []), (6189, .lrec (pmk [] clock) b [])] 30000 120 (fun _ => false))
        (fun _ => True) (fun _ => 0) () trivial (Weak.of hN rfl rfl rfl frI frI) fun _ _ => ?_
      refine XK.norm rfl rfl ?_
      refine XK.region ?_
      refine XL.next (m := 6189) rfl rfl rfl rfl rfl rfl rfl rfl hpin.lt (Nat.le_refl _) (fun j hj x hx hns => absurd hj (Nat.not_lt_zero _)) (fun hall => ?_)
      refine XL.g ?_
      refine XL.fin ?_
      (repeat (first | refine XK.n ?_ | refine XK.a ?_ | refine XK.b ?_)); refine XK.cond rfl (fun hb3 => ?_) (fun hb3 => ?_)
      · cases hb3
      (repeat (first | refine XK.n ?_ | refine XK.a ?_ | refine XK.b ?_))
      refine XK.weak (Weak.trans (Weak.ghost (j := 17) (k := 950) (e := 82) (sz := 22) (f := fun _ => []) rfl rfl) (Weak.of (L := [(17, .vec 950 0)]) (O := [(950, .vec 82 22 0 0 (fun _ => []))]) (nx := 31000) (nt := 120) (md := fun _ => false) hN rfl rfl rfl frI frI)) ?_
      (repeat (first | refine XK.n ?_ | refine XK.a ?_ | refine XK.b ?_)); refine XK.region ?_; refine XL.g ?_
      refine XL.callMA [950] hE rfl rfl rfl rfl trivial (sortM1_ok 0 (by decide) (fun _ => []) (fun _ => []) (fun _ _ => rfl) 26) rfl rfl rfl rfl rfl ?_
      refine XL.g ?_; refine XL.fin ?_; (repeat (first | refine XK.n ?_ | refine XK.a ?_ | refine XK.b ?_))
      refine XK.weak (Weak.frozen (k := 950) hN rfl rfl) ?_
      (first | refine XK.outL rfl rfl rfl ?_ | refine XK.outLN rfl rfl rfl ?_)
      exact ⟨rfl, rfl, fun i hi => absurd hi (Nat.not_lt_zero _)⟩
end
section
open Go.Eng Go.RowKit Go.Lib Go.Sort
theorem Weak.toO {E : Env} {st : ST} {k : Nat} {kk : KK} {zv : Value} {d : Value → Bool} {f : Value → AV} (hk : st.ob k = some (.mapb kk zv d f)) : Weak E st { st with ob := upd st.ob k (some (.mapo kk zv d f [])) } := by
  rintro a w ⟨ρ, hs⟩
  refine ⟨ρ, hs.keep, hs.tsz, hs.dfr, hs.gl, hs.fr, fun j o hj => ?_, fun j hj => ?_, hs.dis, hs.own, hs.le⟩
  · by_cases hjk : j = k
    · subst hjk
      have hj : upd st.ob j (some (.mapo kk zv d f [])) j = some o := hj
      rw [upd_same] at hj
      injection hj with hj
      subst hj
      obtain ⟨g, es, clock, h1, h2, h3, h4⟩ := hs.ob j _ hk
      refine ⟨g, es, clock, h1, h2, h3, fun v hv => ?_, fun x hx => by cases hx⟩
      obtain ⟨r, r1, r2, r3⟩ := h4 v hv
      exact ⟨r, r1, r2, r3.tr (fun b hb => ⟨hb, rfl⟩) _ (Le.none _)⟩
    · have hj : upd st.ob k (some (.mapo kk zv d f [])) j = some o := hj
      rw [upd_other _ _ hjk] at hj
      exact hs.ob j o hj
  · by_cases hjk : j = k
    · subst hjk
      have hj : upd st.ob j (some (.mapo kk zv d f [])) j = none := hj
      rw [upd_same] at hj
      cases hj
    · have hj : upd st.ob k (some (.mapo kk zv d f [])) j = none := hj
      rw [upd_other _ _ hjk] at hj
      exact hs.no j hj
theorem Weak.toB {E : Env} {st : ST} {k : Nat} {kk : KK} {zv : Value} {d : Value → Bool} {f : Value → AV} {sn : List (Value × Nat)} (hk : st.ob k = some (.mapo kk zv d f sn)) (hf : ∀ v, kk.has v = true → (f v).ks (fun _ => false) = true) : Weak E st { st with ob := upd st.ob k (some (.mapb kk zv d f)) } := by
  rintro a w ⟨ρ, hs⟩
  refine ⟨ρ, hs.keep, hs.tsz, hs.dfr, hs.gl, hs.fr, fun j o hj => ?_, fun j hj => ?_, hs.dis, hs.own, hs.le⟩
  · by_cases hjk : j = k
    · subst hjk
      have hj : upd st.ob j (some (.mapb kk zv d f)) j = some o := hj
      rw [upd_same] at hj
      injection hj with hj
      subst hj
      obtain ⟨g, es, clock, h1, h2, h3, h4, _⟩ := hs.ob j _ hk
      refine ⟨g, es, clock, h1, h2, h3, fun v hv => ?_⟩
      obtain ⟨r, r1, r2, r3⟩ := h4 v hv
      exact ⟨r, r1, r2, r3.free (hf v hv)⟩
    · have hj : upd st.ob k (some (.mapb kk zv d f)) j = some o := hj
      rw [upd_other _ _ hjk] at hj
      exact hs.ob j o hj
  · by_cases hjk : j = k
    · subst hjk
      have hj : upd st.ob j (some (.mapb kk zv d f)) j = none := hj
      rw [upd_same] at hj
      cases hj
    · have hj : upd st.ob k (some (.mapb kk zv d f)) j = none := hj
      rw [upd_other _ _ hjk] at hj
      exact hs.no j hj
theorem pin_one {kk : KK} {d : Value → Bool} {es : List (Value × Nat)} {clock : Nat} (hp : PinOk kk d es clock) {k : Value} (hk : kk.has k = true) (hd : ∀ v, kk.has v = true → d v = keyEq v k) : ∃ b, es = [(k, b)] := by
  have h1 : ∀ x ∈ es, x.1 = k := fun x hx => by
    have h2 := hp.key x hx
    have h3 := (hp.dom x.1 h2).2 ⟨x.2, hx⟩
    rw [hd _ h2] at h3
    exact (keyEq_iff h2 hk).1 h3
  obtain ⟨b, hb⟩ := (hp.dom k hk).1 (by rw [hd k hk]; exact keyEq_self hk)
  have hnk := hp.nk
  match es, h1, hb, hnk with
  | [x], h1, hb, _ => exact ⟨b, by rw [List.mem_singleton.1 hb]⟩
  | x :: y :: es, h1, hb, hnk =>
    exfalso
    have e1 := h1 x List.mem_cons_self
    have e2 := h1 y (List.mem_cons_of_mem _ List.mem_cons_self)
    simp only [List.map_cons, List.nodup_cons, List.mem_cons] at hnk
    exact hnk.1 (.inl (e1.trans e2.symm))
set_option maxHeartbeats 4000000 in
theorem agreedOne_ok (l : List Lt) (hl : ∀ x ∈ l, ltW x) (g3 : l.length ≤ 4000) (dg : ByteArray) (p0 : Px) (hpr : ∀ v, prT 2 l l.length v = bif keyEq v (.string dg) then some p0 else none)
    (hac : ∀ i : Nat, i < 2 → (i : Int) = p0.l.party ∨ (acT 2 l l.length (acK i p0.l.number p0.sum)).isSome = true) (p : Px) (hp : p = { p0 with known := knM p0 (acT 2 l l.length) 2 }) (hkn : 0 ≤ p.known) (hwd : ∀ m, (wdT 2 l l.length).W m = [])
    (hc1 : p.l.patch.clauses.length ≤ 1000000) (hc2 : p.l.patch.new.start.length ≤ 1000000) : Does Tryz.prog 7 [.c (.int .i64 2), ltsV l] (amsV [pxAm p]) := by
  refine Does.mk (fun _ => false) TT_ok Tryz.func7 rfl (by kernel_rfl) Tryz.ntmps7 rfl rfl fun E hT hE hN hR => ?_
  have hm := mixO hE
  (repeat (first | refine XK.n ?_ | refine XK.a ?_ | refine XK.b ?_)); refine XK.cond rfl (fun h1 => ?_) (fun h1 => ?_) <;> (try simp at h1)
  · omega
  (repeat (first | refine XK.n ?_ | refine XK.a ?_ | refine XK.b ?_))
  (repeat (first | refine XK.n ?_ | refine XK.a ?_ | refine XK.b ?_)); refine XK.region ?_; refine XL.g ?_
  refine XL.callMA [901] hE rfl rfl rfl rfl trivial (proposals_ok 2 l hl g3) rfl rfl rfl rfl rfl ?_
  refine XL.g ?_; refine XL.fin ?_; (repeat (first | refine XK.n ?_ | refine XK.a ?_ | refine XK.b ?_))
  (repeat (first | refine XK.n ?_ | refine XK.a ?_ | refine XK.b ?_)); refine XK.region ?_; refine XL.g ?_
  refine XL.callMA [902] hE rfl rfl rfl rfl trivial (acceptances_ok 2 l hl g3) rfl rfl rfl rfl rfl ?_
  refine XL.g ?_; refine XL.fin ?_; (repeat (first | refine XK.n ?_ | refine XK.a ?_ | refine XK.b ?_))
  generalize acT 2 l l.length = ac at *
  generalize prT 2 l l.length = pr at *
  refine XK.weak (Weak.of (L := [(0, .c (.int .i64 2)), (1, ltsV l), (6, .mp 902), (7, .mp 519), (5, .mp 901)]) (O := [(901, prO pr), (902, acO ac), (519, .mapb kkS (.slice none 0 0) (fun _ => false) (fun _ => .c (.slice none 0 0)))]) (nx := 1000) (nt := 120) (md := fun _ => false) hN rfl rfl rfl frI frI) ?_
  refine XK.pin (m := 901) rfl fun b es clock hpin => ?_
  obtain ⟨bb, rfl⟩ := pin_one hpin (k := .string dg) rfl (fun v _ => by rw [hpr]; cases keyEq v (.string dg) <;> rfl)
  have hg : (pr (.string dg)).getD dPx = p0 := by rw [hpr, keyEq_self (kk := .str) rfl]; rfl
  rw [show ([(Value.string dg, bb)].map fun x => pxV ((pr x.1).getD dPx)) = [pxV p0] by simp only [List.map_cons, List.map_nil, hg]]
  refine XK.region ?_
  refine XL.g ?_
  refine XL.range (m := 901) hT rfl rfl rfl rfl rfl rfl rfl rfl rfl fun bi => ?_
  refine XL.fin ?_
  (repeat (first | refine XK.n ?_ | refine XK.a ?_ | refine XK.b ?_))
  have hpl : p.l = p0.l := by rw [hp]
  refine XK.loop (ι := Bool) (fun z => match z with
      | false => ⟨mkFr [(0, .c (.int .i64 2)), (1, ltsV l), (6, .mp 902), (7, .mp 519), (41, .ptr 1041 0)], obF 1000000 70 27 (famP (⟨fun _ => [], fun _ => false⟩ : BsS).W) ((519, mapF 1000000 kkS (⟨fun _ => [], fun _ => false⟩ : BsS).d encS) :: [(1041, .lrec (itk b clock #[] clock) bi []), (901, .lrec (pmk [(Value.string dg, bb)] clock) b [pxV p0]), (902, acO ac)]), 2000, 120, (fun _ => false)⟩
      | true => ⟨mkFr [(0, .c (.int .i64 2)), (1, ltsV l), (6, .mp 902), (7, .mp 519), (41, .ptr 1041 0)], obF 1000000 70 27 (famP (bsPut ⟨fun _ => [], fun _ => false⟩ p).W) ((519, mapF 1000000 kkS (bsPut ⟨fun _ => [], fun _ => false⟩ p).d encS) :: [(1041, .lrec (itk b clock (#[].push bb) clock) bi []), (901, .lrec (pmk [(Value.string dg, bb)] clock) b [pxV p0]), (902, acO ac)]), 2000, 120, (fun _ => false)⟩)
    (fun _ => True) (fun z => match z with | false => 1 | true => 0) false trivial
    (Weak.trans (Weak.of (L := [(0, .c (.int .i64 2)), (1, ltsV l), (6, .mp 902), (7, .mp 519), (41, .ptr 1041 0)]) (O := (519, .mapb kkS (.slice none 0 0) (fun _ => false) (fun _ => .c (.slice none 0 0))) :: [(1041, .lrec (itk b clock #[] clock) bi []), (901, .lrec (pmk [(Value.string dg, bb)] clock) b [pxV p0]), (902, acO ac)]) (nx := 2000) (nt := 120) (md := fun _ => false) hN rfl rfl rfl frI frI)
      (Weak.famIn encS (famP fun _ => []) (fun m => rfl) hN rfl rfl (fun _ => rfl))) fun z _ => ?_
  cases z with
  | false =>
    dsimp only
    refine XK.norm rfl rfl ?_
    refine XK.region ?_
    refine XL.next (m := 901) rfl rfl rfl rfl rfl rfl rfl rfl hpin.lt (Nat.le_refl _) (fun j hj x hx hns => ?_) (fun hall => ?_)
    rotate_left
    · have := hall _ List.mem_cons_self
      cases this
    obtain rfl : j = 0 := by simpa using hj
    obtain rfl : x = pxV p0 := by injection hx with hx; exact hx.symm
    refine XL.g ?_
    refine XL.fin ?_
    (repeat (first | refine XK.n ?_ | refine XK.a ?_ | refine XK.b ?_)); refine XK.cond rfl (fun hb1 => ?_) (fun hb1 => ?_)
    rotate_left
    · cases hb1
    refine XK.norm rfl rfl ?_
    refine XK.region ?_
    refine XL.entry (last := 0) (j := 0) (m := 901) (x := pxV p0) rfl rfl rfl rfl rfl hj rfl rfl rfl hpin.nb rfl ?_
    refine XL.g ?_
    refine XL.fin ?_
    (repeat (first | refine XK.n ?_ | refine XK.a ?_ | refine XK.b ?_))
    (repeat (first | refine XK.n ?_ | refine XK.a ?_ | refine XK.b ?_)); refine XK.region ?_; refine XL.g ?_
    refine XL.callMA [902] hE rfl rfl rfl rfl trivial (knownAll_ok p0 2 ac hac (by decide)) rfl rfl rfl rfl rfl ?_
    refine XL.g ?_; refine XL.fin ?_; (repeat (first | refine XK.n ?_ | refine XK.a ?_ | refine XK.b ?_))
    refine XK.weak (Weak.trans (Weak.famOf (B := 1000000) (k := 519) (e := 70) (sz := 27) (kk := kkS) (d := fun _ => false) (enc := encS) (F := famP fun _ => []) (L := [(0, .c (.int .i64 2)), (1, ltsV l), (6, .mp 902), (7, .mp 519), (41, .ptr 1041 0), (9, .ptr 2129 0), (10, .ptr 2370 0)]) (O := (2129, .cells 70 (pxC p)) :: (2370, .cells 73 [.c (.int .i64 p.l.party), .c (.int .i64 p.l.number)]) :: [(1041, .lrec (itk b clock (#[].push bb) clock) bi []), (901, .lrec (pmk [(Value.string dg, bb)] clock) b [pxV p0]), (902, acO ac)]) (nx := 4000) (md := fun _ => false) hN rfl rfl frI (by subst hp; (repeat' (first | exact rfl | exact AvIs.refl _ | exact trivial | exact fun _ _ => rfl | exact fun _ _ => ⟨rfl, AvIs.refl _⟩ | refine ⟨?_, ?_⟩))) rfl (fun j hj => by (try dsimp only); simp only [putAll]; (repeat (rw [upd_big hj rfl])); exact obF_ge hj))
      (Weak.famOpen 700 (slK p.l.party p.l.number) hN rfl rfl rfl rfl rfl rfl rfl rfl encS_inj)) ?_
    have hk0 : keyEq (slK p.l.party p.l.number) (slK p.l.party p.l.number) = true := keyEq_self (kk := kkS) rfl
    have hlv : (famP (fun _ => []) (encS (slK p.l.party p.l.number))).1 ≤ 0 := Nat.le_refl _
    (repeat (first | refine XK.n ?_ | refine XK.a ?_ | refine XK.b ?_)); refine XK.region ?_; refine XL.g ?_
    refine XL.mapEntry (v := slK p.l.party p.l.number) (kk := kkS) (m := 519) hT rfl rfl rfl rfl rfl rfl rfl rfl rfl rfl rfl rfl rfl fun c => ?_
    rw [hk0, cond_true]
    refine XL.g ?_
    refine XL.entryStore (v := slK p.l.party p.l.number) (n := c) (m := 519) rfl rfl rfl rfl rfl rfl rfl rfl List.mem_cons_self ?_
    refine XL.fin ?_
    (repeat (first | refine XK.n ?_ | refine XK.a ?_ | refine XK.b ?_))
    refine XK.inv ⟨true, trivial, ?_, by decide⟩
    dsimp only
    refine Weak.famClose 700 (slK p.l.party p.l.number) (famP (bsPut ⟨fun _ => [], fun _ => false⟩ p).W) hN rfl rfl frV frI rfl rfl (fun j hj => by (try dsimp only); (repeat (rw [upd_big hj rfl])); exact obQ_ge hj) (fun v _ => ?_) (fun _ _ => rfl) ?_ ?_ ?_ rfl encS_inj
    · show (bif keyEq v (slK p.l.party p.l.number) then AV.vec 700 1 else bif keyEq v (slK p.l.party p.l.number) then AV.vec 700 0 else AV.vec (1000000 + encS v) 0) = _
      cases keyEq v (slK p.l.party p.l.number) <;> rfl
    · simp [famP, bsPut, putW]
    · intro i hi
      have e1 : (bsPut ⟨fun _ => [], fun _ => false⟩ p).W (encS (slK p.l.party p.l.number)) = [] ++ [p] := by simp [bsPut, putW]
      show pxC (((bsPut ⟨fun _ => [], fun _ => false⟩ p).W (encS (slK p.l.party p.l.number))).getD i default) = _
      rw [e1]
      exact rowSn pxC [] p _ rfl i hi
    · intro j hj
      simp [famP, bsPut, putW, hj]
  | true =>
    dsimp only
    refine XK.norm rfl rfl ?_
    refine XK.region ?_
    refine XL.next (m := 901) rfl rfl rfl rfl rfl rfl rfl rfl hpin.lt (Nat.le_refl _) (fun j hj x hx hns => ?_) (fun hall => ?_)
    · exfalso
      obtain rfl : j = 0 := by simpa using hj
      exact hns (by simp)
    refine XL.g ?_
    refine XL.fin ?_
    (repeat (first | refine XK.n ?_ | refine XK.a ?_ | refine XK.b ?_)); refine XK.cond rfl (fun hb1 => ?_) (fun hb1 => ?_)
    · cases hb1
    (repeat (first | refine XK.n ?_ | refine XK.a ?_ | refine XK.b ?_))
    refine XK.weak (Weak.trans (Weak.famOf (B := 1000000) (k := 519) (e := 70) (sz := 27) (kk := kkS) (d := (bsPut ⟨fun _ => [], fun _ => false⟩ p).d) (enc := encS) (F := famP (bsPut ⟨fun _ => [], fun _ => false⟩ p).W) (L := [(0, .c (.int .i64 2)), (1, ltsV l), (7, .mp 519)]) (O := []) (nx := 6000) (md := fun _ => false) hN rfl rfl frI frI rfl (fun j hj => by (try dsimp only); (repeat (rw [upd_big hj rfl])); exact obF_ge hj))
      (Weak.trans (Weak.famOut hN rfl rfl) (Weak.of (L := [(0, .c (.int .i64 2)), (1, ltsV l), (7, .mp 519)]) (O := [(519, bsO (bsPut ⟨fun _ => [], fun _ => false⟩ p))]) (nx := 6000) (nt := 120) (md := fun _ => false) hN rfl rfl rfl frI frI))) ?_
    clear hpin
    (repeat (first | refine XK.n ?_ | refine XK.a ?_ | refine XK.b ?_)); refine XK.region ?_; refine XL.g ?_
    refine XL.callMA [903] hE rfl rfl rfl rfl trivial (withdrawals_ok 2 l hl g3) rfl rfl rfl rfl rfl ?_
    refine XL.g ?_; refine XL.fin ?_; (repeat (first | refine XK.n ?_ | refine XK.a ?_ | refine XK.b ?_))
    generalize wdT 2 l l.length = wd at *
    refine XK.weak (Weak.of (L := [(7, .mp 519), (11, .mp 903), (12, .mp 6189)]) (O := [(519, bsO (bsPut ⟨fun _ => [], fun _ => false⟩ p)), (903, wdO wd), (6189, .mapb (.int .i64) (.slice none 0 0) (fun _ => false) (fun _ => .c (.slice none 0 0)))]) (nx := 7000) (nt := 120) (md := fun _ => false) hN rfl rfl rfl frI frI) ?_
    clear bi hg hall
    refine XK.pin (m := 519) rfl fun b3 es2 clock2 hpin => ?_
    obtain ⟨b2, rfl⟩ := pin_one hpin (k := slK p.l.party p.l.number) rfl (fun v _ => by show (keyEq v _ || false) = _; simp)
    have e1 : (bsPut ⟨fun _ => [], fun _ => false⟩ p).W (encS (slK p.l.party p.l.number)) = [p] := by simp [bsPut, putW]
    rw [show ([(slK p.l.party p.l.number, b2)].map fun x => psV ((bsPut ⟨fun _ => [], fun _ => false⟩ p).W (encS x.1))) = [psV [p]] by simp only [List.map_cons, List.map_nil, e1]]
    refine XK.region ?_
    refine XL.g ?_
    refine XL.range (m := 519) hT rfl rfl rfl rfl rfl rfl rfl rfl rfl fun bi => ?_
    refine XL.fin ?_
    (repeat (first | refine XK.n ?_ | refine XK.a ?_ | refine XK.b ?_))
    refine XK.loop (ι := Bool) (fun z => match z with
        | false => ST.of [(11, .mp 903), (12, .mp 6189), (71, .ptr 7071 0)] [(7071, .lrec (itk b3 clock2 #[] clock2) bi []), (519, .lrec (pmk [(slK p.l.party p.l.number, b2)] clock2) b3 [psV [p]]), (903, wdO wd), (6189, .mapb (.int .i64) (.slice none 0 0) (fun _ => false) (fun _ => .c (.slice none 0 0)))] 8000 120 (fun _ => false)
        | true => ST.of [(11, .mp 903), (12, .mp 6189), (71, .ptr 7071 0)] [(7071, .lrec (itk b3 clock2 (#[].push b2) clock2) bi []), (519, .lrec (pmk [(slK p.l.party p.l.number, b2)] clock2) b3 [psV [p]]), (903, wdO wd), (6189, .mapb (.int .i64) (.slice none 0 0) (fun u => keyEq u (.int .i64 p.l.number) || false) (fun u => bif keyEq u (.int .i64 p.l.number) then psV [p] else .c (.slice none 0 0)))] 8000 120 (fun _ => false))
      (fun _ => True) (fun z => match z with | false => 1 | true => 0) false trivial (Weak.of hN rfl rfl rfl frI frI) fun z _ => ?_
    cases z with
    | false =>
      dsimp only
      refine XK.norm rfl rfl ?_
      refine XK.region ?_
      refine XL.next (m := 519) rfl rfl rfl rfl rfl rfl rfl rfl hpin.lt (Nat.le_refl _) (fun j hj x hx hns => ?_) (fun hall => ?_)
      rotate_left
      · have := hall _ List.mem_cons_self
        cases this
      obtain rfl : j = 0 := by simpa using hj
      obtain rfl : x = psV [p] := by injection hx with hx; exact hx.symm
      refine XL.g ?_
      refine XL.fin ?_
      (repeat (first | refine XK.n ?_ | refine XK.a ?_ | refine XK.b ?_)); refine XK.cond rfl (fun hb2 => ?_) (fun hb2 => ?_)
      rotate_left
      · cases hb2
      refine XK.norm rfl rfl ?_
      refine XK.region ?_
      refine XL.entry (last := 0) (j := 0) (m := 519) (x := psV [p]) rfl rfl rfl rfl rfl hj rfl rfl rfl hpin.nb rfl ?_
      refine XL.weak (Weak.frS 74 (x := .tup [.c (slK p.l.party p.l.number), psV [p]]) (y := .tup [.agg [.c (.int .i64 p.l.party), .c (.int .i64 p.l.number)], psV [p]]) rfl (AvS.tupS ⟨slK_is _ _, AvS.refl _, trivial⟩)) ?_
      refine XL.g ?_
      refine XL.fin ?_
      (repeat (first | refine XK.n ?_ | refine XK.a ?_ | refine XK.b ?_))
      refine XK.loop (ι := Bool) (fun z => match z with
          | false => ST.of [(11, .mp 903), (12, .mp 6189), (71, .ptr 7071 0), (13, .ptr 8133 0), (14, psV [p]), (77, psV [p]), (78, .c (.int .i64 1)), (79, .c (.int .i64 0))] ((8133, .cells 73 [.c (.int .i64 p.l.party), .c (.int .i64 p.l.number)]) :: [(7071, .lrec (itk b3 clock2 (#[].push b2) clock2) bi []), (519, .lrec (pmk [(slK p.l.party p.l.number, b2)] clock2) b3 [psV [p]]), (903, wdO wd), (6189, .mapb (.int .i64) (.slice none 0 0) (fun _ => false) (fun _ => .c (.slice none 0 0)))]) 9000 120 (fun _ => false)
          | true => ST.of [(11, .mp 903), (12, .mp 6189), (71, .ptr 7071 0), (13, .ptr 8133 0), (14, psV [p]), (77, psV [p]), (78, .c (.int .i64 1)), (79, .c (.int .i64 1))] ((8133, .cells 73 [.c (.int .i64 p.l.party), .c (.int .i64 p.l.number)]) :: [(7071, .lrec (itk b3 clock2 (#[].push b2) clock2) bi []), (519, .lrec (pmk [(slK p.l.party p.l.number, b2)] clock2) b3 [psV [p]]), (903, wdO wd), (6189, .mapb (.int .i64) (.slice none 0 0) (fun u => keyEq u (.int .i64 p.l.number) || false) (fun u => bif keyEq u (.int .i64 p.l.number) then psV [p] else .c (.slice none 0 0)))]) 9000 120 (fun _ => false))
        (fun _ => True) (fun z => match z with | false => 1 | true => 0) false trivial (Weak.of hN rfl rfl rfl frI frI) fun z _ => ?_
      cases z with
      | false =>
        dsimp only
        (repeat (first | refine XK.n ?_ | refine XK.a ?_ | refine XK.b ?_)); refine XK.cond rfl (fun h4 => ?_) (fun h4 => ?_)
        rotate_left
        · cases h4
        (repeat (first | refine XK.n ?_ | refine XK.a ?_ | refine XK.b ?_))
        have hvd : Does Tryz.prog 22 [pxV p, psV [p], intsV (wd.W (encS (slK p.l.party p.l.number)))] (.c (.bool true)) := by
          rw [hwd]
          exact validYes_ok p [p] (fun i hi => by obtain rfl : i = 0 := by simpa using hi
                                                  rfl) (by simp) hkn
        (repeat (first | refine XK.n ?_ | refine XK.a ?_ | refine XK.b ?_)); refine XK.drawn hm ?_; refine XD.goA hT rfl rfl rfl rfl ?_
        refine XD.callLA hE rfl rfl rfl rfl trivial rfl (hvd) rfl ?_
        refine XD.goA hT rfl rfl rfl rfl ?_; refine XD.fin (by kernel_rfl) ?_; (repeat (first | refine XK.n ?_ | refine XK.a ?_ | refine XK.b ?_))
        (repeat (first | refine XK.n ?_ | refine XK.a ?_ | refine XK.b ?_)); refine XK.cond rfl (fun h5 => ?_) (fun h5 => ?_)
        rotate_left
        · cases h5
        refine XK.weak (Weak.toO (k := 6189) rfl) ?_
        refine XK.rgnB hT hm rfl rfl rfl ?_
        refine XK.weak (Weak.trans (Weak.frozen (k := 9458) hN rfl rfl) (Weak.toB (k := 6189) rfl (fun v _ => by
          show (AV.map _ (bif keyEq v (.int .i64 p.l.number) then _ else _)).ks _ = true
          cases keyEq v (.int .i64 p.l.number) <;> rfl))) ?_
        (repeat (first | refine XK.n ?_ | refine XK.a ?_ | refine XK.b ?_))
        refine XK.inv ⟨true, trivial, Weak.of hN rfl rfl rfl frI ⟨frI, frI, frI, frI, rfl, rfl, fun v _ => ?_⟩, by decide⟩
        refine ⟨rfl, ?_⟩
        show AvIs (AV.map _ (bif keyEq v (.int .i64 p.l.number) then _ else _)) (bif keyEq v (.int .i64 p.l.number) then _ else _)
        cases keyEq v (.int .i64 p.l.number) with
        | true => exact ⟨rfl, rfl, fun i hi => by cases Nat.lt_one_iff.1 hi; rfl⟩
        | false => exact AvIs.refl _
      | true =>
        dsimp only
        (repeat (first | refine XK.n ?_ | refine XK.a ?_ | refine XK.b ?_)); refine XK.cond rfl (fun h4 => ?_) (fun h4 => ?_)
        · cases h4
        (repeat (first | refine XK.n ?_ | refine XK.a ?_ | refine XK.b ?_))
        exact XK.inv ⟨true, trivial, Weak.of hN rfl rfl rfl frI frI, by decide⟩
    | true =>
      dsimp only
      refine XK.norm rfl rfl ?_
      refine XK.region ?_
      refine XL.next (m := 519) rfl rfl rfl rfl rfl rfl rfl rfl hpin.lt (Nat.le_refl _) (fun j hj x hx hns => ?_) (fun hall => ?_)
      · exfalso
        obtain rfl : j = 0 := by simpa using hj
        exact hns (by simp)
      refine XL.g ?_
      refine XL.fin ?_
      (repeat (first | refine XK.n ?_ | refine XK.a ?_ | refine XK.b ?_)); refine XK.cond rfl (fun hb2 => ?_) (fun hb2 => ?_)
      · cases hb2
      (repeat (first | refine XK.n ?_ | refine XK.a ?_ | refine XK.b ?_))
      refine XK.weak (Weak.of (L := [(12, .mp 6189), (17, .c (.slice none 0 0))]) (O := [(6189, .mapb (.int .i64) (.slice none 0 0) (fun u => keyEq u (.int .i64 p.l.number) || false) (fun u => bif keyEq u (.int .i64 p.l.number) then psV [p] else .c (.slice none 0 0)))]) (nx := 20000) (nt := 120) (md := fun _ => false) hN rfl rfl rfl frI frI) ?_
      clear hpin
      (repeat (first | refine XK.n ?_ | refine XK.a ?_ | refine XK.b ?_))
      refine XK.pin (m := 6189) rfl fun b es clock hpin => ?_
      obtain ⟨bb, rfl⟩ := pin_one hpin (k := .int .i64 p.l.number) rfl (fun v _ => by show (keyEq v _ || false) = _; simp)
      rw [show ([(Value.int IntKind.i64 p.l.number, bb)].map fun x => bif keyEq x.1 (.int .i64 p.l.number) then psV [p] else .c (.slice none 0 0)) = [psV [p]] by simp only [List.map_cons, List.map_nil, keyEq_self (kk := .int .i64) (v := .int .i64 p.l.number) rfl, cond_true]]
      refine XK.region ?_
      refine XL.g ?_
      refine XL.range (m := 6189) hT rfl rfl rfl rfl rfl rfl rfl rfl rfl fun bi => ?_
      refine XL.fin ?_
      (repeat (first | refine XK.n ?_ | refine XK.a ?_ | refine XK.b ?_))
      refine XK.loop (ι := Bool) (fun z => match z with
          | false => ST.of [(17, .c (.slice none 0 0)), (101, .ptr 20101 0)] [(20101, .lrec (itk b clock #[] clock) bi []), (6189, .lrec (pmk [(Value.int IntKind.i64 p.l.number, bb)] clock) b [psV [p]])] 30000 120 (fun _ => false)
          | true => ST.of [(17, .vec 30596 0), (101, .ptr 20101 0)] [(20101, .lrec (itk b clock (#[].push bb) clock) bi []), (6189, .lrec (pmk [(Value.int IntKind.i64 p.l.number, bb)] clock) b [psV [p]]), (30596, .vec 82 22 0 1 (fun _ => amC (pxAm p)))] 30000 120 (fun _ => false))
        (fun _ => True) (fun z => match z with | false => 1 | true => 0) false trivial (Weak.of hN rfl rfl rfl frI frI) fun z _ => ?_
      cases z with
      | false =>
        dsimp only
        refine XK.norm rfl rfl ?_
        refine XK.region ?_
        refine XL.next (m := 6189) rfl rfl rfl rfl rfl rfl rfl rfl hpin.lt (Nat.le_refl _) (fun j hj x hx hns => ?_) (fun hall => ?_)
        rotate_left
        · have := hall _ List.mem_cons_self
          cases this
        obtain rfl : j = 0 := by simpa using hj
        obtain rfl : x = psV [p] := by injection hx with hx; exact hx.symm
        refine XL.g ?_
        refine XL.fin ?_
        (repeat (first | refine XK.n ?_ | refine XK.a ?_ | refine XK.b ?_)); refine XK.cond rfl (fun hb3 => ?_) (fun hb3 => ?_)
        rotate_left
        · cases hb3
        refine XK.norm rfl rfl ?_
        refine XK.region ?_
        refine XL.entry (last := 0) (j := 0) (m := 6189) (x := psV [p]) rfl rfl rfl rfl rfl hj rfl rfl rfl hpin.nb rfl ?_
        refine XL.g ?_
        refine XL.fin ?_
        (repeat (first | refine XK.n ?_ | refine XK.a ?_ | refine XK.b ?_))
        (repeat (first | refine XK.n ?_ | refine XK.a ?_ | refine XK.b ?_)); refine XK.region ?_; refine XL.g ?_
        refine XL.callKA hE rfl rfl rfl rfl trivial rfl rfl (first1_ok p) ?_
        refine XL.g ?_; refine XL.fin ?_; (repeat (first | refine XK.n ?_ | refine XK.a ?_ | refine XK.b ?_))
        (repeat (first | refine XK.n ?_ | refine XK.a ?_ | refine XK.b ?_)); refine XK.cond rfl (fun hb4 => ?_) (fun hb4 => ?_)
        rotate_left
        · cases hb4
        (repeat (first | refine XK.n ?_ | refine XK.a ?_ | refine XK.b ?_))
        (repeat (first | refine XK.n ?_ | refine XK.a ?_ | refine XK.b ?_)); refine XK.region ?_; refine XL.g ?_
        refine XL.callKA hE rfl rfl rfl rfl trivial rfl rfl (amendment_ok p hc1 hc2) ?_
        refine XL.g ?_; refine XL.fin ?_; (repeat (first | refine XK.n ?_ | refine XK.a ?_ | refine XK.b ?_))
        exact XK.inv ⟨true, trivial, Weak.of hN rfl rfl rfl frI ⟨frI, frI, ⟨rfl, rfl, rfl⟩, rfl, fun i hi => by cases Nat.lt_one_iff.1 hi; rfl⟩, by decide⟩
      | true =>
        dsimp only
        refine XK.norm rfl rfl ?_
        refine XK.region ?_
        refine XL.next (m := 6189) rfl rfl rfl rfl rfl rfl rfl rfl hpin.lt (Nat.le_refl _) (fun j hj x hx hns => ?_) (fun hall => ?_)
        · exfalso
          obtain rfl : j = 0 := by simpa using hj
          exact hns (by simp)
        refine XL.g ?_
        refine XL.fin ?_
        (repeat (first | refine XK.n ?_ | refine XK.a ?_ | refine XK.b ?_)); refine XK.cond rfl (fun hb3 => ?_) (fun hb3 => ?_)
        · cases hb3
        (repeat (first | refine XK.n ?_ | refine XK.a ?_ | refine XK.b ?_))
        (repeat (first | refine XK.n ?_ | refine XK.a ?_ | refine XK.b ?_)); refine XK.region ?_; refine XL.g ?_
        refine XL.callMA [30596] hE rfl rfl rfl rfl trivial (sortM1_ok 1 (by decide) (fun _ => amC (pxAm p)) (fun _ => amC (pxAm p)) (fun _ _ => rfl) 26) rfl rfl rfl rfl rfl ?_
        refine XL.g ?_; refine XL.fin ?_; (repeat (first | refine XK.n ?_ | refine XK.a ?_ | refine XK.b ?_))
        refine XK.weak (Weak.frozen (k := 30596) hN rfl rfl) ?_
        (first | refine XK.outL rfl rfl rfl ?_ | refine XK.outLN rfl rfl rfl ?_)
        exact ⟨rfl, rfl, fun i hi => by cases Nat.lt_one_iff.1 hi; rfl⟩
end
section
open Go.Eng
def plC (a : Am) (i : Int) : List AV := [.c (.int .i64 a.number), .c (.int .i64 a.day), .c (.int .i64 a.known), .c (.int .i64 a.patch.kind), intsV a.patch.clauses, .c (.int .i64 a.patch.new.kind), .c (.int .i64 a.patch.new.role), .c (.int .i64 a.patch.new.act), .c (.int .i64 a.patch.new.need), cndsV a.patch.new.start, .c (.int .i64 a.patch.new.after), .c (.int .i64 a.patch.new.grace), .c (.bool a.patch.new.business), .c (.bool a.patch.new.final), .c (.int .i64 a.patch.new.pause), .c (.int .i64 a.patch.new.resume), .c (.int .i64 a.patch.new.value.1), .c (.int .i64 a.patch.new.value.2), .c (.int .i64 a.patch.new.unit), .c (.int .i64 a.patch.new.to), .c (.bool a.patch.new.waived), .c (.int .i64 a.patch.days), .c (.int .i64 i)]
end
section
open Go.Eng Go.Sort
def plO (s : Nat) (l : List Am) (σ : Nat → Nat) : Ob := .vec 150 23 s l.length (fun i => plC (l.getD (σ i) default) (σ i : Nat))
def ordAt (l : List Am) (i : Nat) : Nat := (ordL l).getD i 0
theorem ordAt_one {l : List Am} (hl : l.length ≤ 1) {i : Nat} (hi : i < l.length) : ordAt l i = i := by
  have h1 : i < (ordL l).length := by rw [ordL_len]; exact hi
  have h2 : ordAt l i < l.length := by
    unfold ordAt
    rw [List.getD_eq_getElem?_getD, List.getElem?_eq_getElem h1]
    exact ordL_lt (List.getElem_mem h1)
  omega
theorem sortPl_ok (l : List Am) (hl : l.length ≤ 1) :
    DoesM Tryz.prog 63 [.vec 0 0, .fn (.func 64) [] []] [plO 0 l (fun i => i)] (.tup []) [plO 0 l (ordAt l)] := by
  exact sortP1_ok l.length hl _ _ (fun i hi => by rw [ordAt_one hl hi]) _
def zeroPl : List AV := [.c (.int .i64 0), .c (.int .i64 0), .c (.int .i64 0), .c (.int .i64 0), .c (.slice none 0 0), .c (.int .i64 0), .c (.int .i64 0), .c (.int .i64 0), .c (.int .i64 0), .c (.slice none 0 0), .c (.int .i64 0), .c (.int .i64 0), .c (.bool false), .c (.bool false), .c (.int .i64 0), .c (.int .i64 0), .c (.int .i64 0), .c (.int .i64 0), .c (.int .i64 0), .c (.int .i64 0), .c (.bool false), .c (.int .i64 0), .c (.int .i64 0)]
def plTo (l : List Am) (i : Nat) : Nat → List AV := fun j => bif Nat.blt j i then plC (l.getD j default) (j : Nat) else zeroPl
theorem blt_succ_ne {i j : Nat} (h : j ≠ i) : Nat.blt j (i + 1) = Nat.blt j i := by
  rw [Bool.eq_iff_iff, Nat.blt_eq, Nat.blt_eq]; omega
theorem blt_irr (j : Nat) : Nat.blt j j = false := by
  cases hb : Nat.blt j j with
  | false => rfl
  | true => exact absurd (Nat.le_of_ble_eq_true hb) (Nat.lt_irrefl _)
theorem plTo_succ {l : List Am} {i : Nat} (j : Nat) : plTo l (i + 1) j = setRowF (plTo l i) i 0 (plC (l.getD i default) (i : Nat)) j := by
  unfold setRowF plTo
  by_cases h : j = i
  · subst h
    rw [show Nat.beq j j = true by simp, show Nat.blt j (j + 1) = true by simp, blt_irr]
    rfl
  · rw [beq_false h, blt_succ_ne h]
    rfl
def ordI (l : List Am) : List Int := (ordL l).map fun (i : Nat) => (i : Int)
theorem ordI_len (l : List Am) : (ordI l).length = l.length := by rw [ordI, List.length_map, ordL_len]
theorem ordI_at (l : List Am) {i : Nat} (hi : i < l.length) : (ordI l).getD i default = (ordAt l i : Nat) := by
  have : i < (ordL l).length := by rw [ordL_len]; exact hi
  simp [ordI, ordAt, List.getD, this]
def outTo (l : List Am) (i : Nat) : Nat → List AV := fun j => bif Nat.blt j i then iC ((ordI l).getD j default) else [.c (.int .i64 0)]
theorem outTo_succ {l : List Am} {i : Nat} (hi : i < l.length) (j : Nat) : outTo l (i + 1) j = setRowF (outTo l i) i 0 [.c (.int .i64 (ordAt l i : Nat))] j := by
  unfold setRowF outTo
  by_cases h : j = i
  · subst h
    rw [show Nat.beq j j = true by simp, show Nat.blt j (j + 1) = true by simp, blt_irr, ordI_at l hi]
    rfl
  · rw [beq_false h, blt_succ_ne h]
    rfl
theorem order_ok (l : List Am) (hl : l.length ≤ 1) : Does Tryz.prog 31 [amsV l] (intsV (ordI l)) := by
  refine Does.mk (fun d => Nat.beq d 11 || Nat.beq d 30) TT_ok Tryz.func31 rfl (by kernel_rfl) Tryz.ntmps31 rfl rfl fun E hT hE hN hR => ?_
  have hm := mixO hE
  (repeat (first | refine XK.n ?_ | refine XK.a ?_ | refine XK.b ?_))
  refine XK.loop (ι := Nat) (fun i => ST.of [(0, amsV l), (3, .vec 56 0), (12, amsV l), (13, .c (.int .i64 l.length)), (14, .c (.int .i64 i))] [(56, .vec 150 23 0 l.length (plTo l i))] 1000 45 (fun d => Nat.beq d 11 || Nat.beq d 30))
    (fun i => i ≤ l.length) (fun i => l.length - i) 0 (Nat.zero_le _) (Weak.of hN rfl rfl rfl frI frI) fun i hi => ?_
  (repeat (first | refine XK.n ?_ | refine XK.a ?_ | refine XK.b ?_)); refine XK.cond rfl (fun hlt => ?_) (fun hlt => ?_) <;> (try simp at hlt)
  · have fx : l.getD (i : Int).toNat default = l.getD i default := rfl
    (repeat (first | refine XK.n ?_ | refine XK.a ?_ | refine XK.b ?_))
    rw [fx]
    exact XK.inv ⟨i + 1, hlt, Weak.of hN rfl rfl rfl frV ⟨⟨rfl, rfl, rfl⟩, rfl, fun j hj => plTo_succ j⟩, by omega⟩
  have hie : i = l.length := by omega
  subst hie
  refine XK.weak (st' := ST.of [(0, amsV l), (3, .vec 56 0)] [(56, plO 0 l (fun i => i))] 2000 45 (fun d => Nat.beq d 11 || Nat.beq d 30)) (Weak.of hN rfl rfl rfl frV ⟨⟨rfl, rfl, rfl⟩, rfl, fun j hj => by show plC _ _ = bif Nat.blt j l.length then _ else _; rw [show Nat.blt j l.length = true from Nat.ble_eq_true_of_le hj]; rfl⟩) ?_
  (repeat (first | refine XK.n ?_ | refine XK.a ?_ | refine XK.b ?_))
  (repeat (first | refine XK.n ?_ | refine XK.a ?_ | refine XK.b ?_)); refine XK.region ?_; refine XL.g ?_
  refine XL.callMA [56] hE rfl rfl rfl rfl trivial (sortPl_ok l hl) rfl rfl rfl rfl rfl ?_
  refine XL.g ?_; refine XL.fin ?_; (repeat (first | refine XK.n ?_ | refine XK.a ?_ | refine XK.b ?_))
  refine XK.loop (ι := Nat) (fun i => ST.of [(6, .vec 2075 0), (31, .vec 56 0), (32, .c (.int .i64 l.length)), (33, .c (.int .i64 i))] [(56, plO 0 l (ordAt l)), (2075, .vec 3 1 0 l.length (outTo l i))] 3000 45 (fun _ => false))
    (fun i => i ≤ l.length) (fun i => l.length - i) 0 (Nat.zero_le _) (Weak.of hN rfl rfl rfl frI frI) fun i hi => ?_
  (repeat (first | refine XK.n ?_ | refine XK.a ?_ | refine XK.b ?_)); refine XK.cond rfl (fun hlt2 => ?_) (fun hlt2 => ?_) <;> (try simp at hlt2)
  · unfold plO
    have fx : ordAt l (i : Int).toNat = ordAt l i := rfl
    (repeat (first | refine XK.n ?_ | refine XK.a ?_ | refine XK.b ?_))
    rw [fx]
    exact XK.inv ⟨i + 1, hlt2, Weak.of hN rfl rfl rfl frV ⟨frI, ⟨rfl, rfl, rfl⟩, rfl, fun j hj => outTo_succ hlt2 j⟩, by omega⟩
  have hie : i = l.length := by omega
  subst hie
  (repeat (first | refine XK.n ?_ | refine XK.a ?_ | refine XK.b ?_))
  refine XK.weak (Weak.frozen (k := 2075) hN rfl rfl) ?_
  (first | refine XK.outL rfl rfl rfl ?_ | refine XK.outLN rfl rfl rfl ?_)
  exact ⟨rfl, (ordI_len l).symm, fun j hj => by show _ = bif Nat.blt j l.length then _ else _; rw [show Nat.blt j l.length = true from Nat.ble_eq_true_of_le hj]; rfl⟩
end
end Go.Proofs.YtlcfoelfcnhenaaGreatDoor
