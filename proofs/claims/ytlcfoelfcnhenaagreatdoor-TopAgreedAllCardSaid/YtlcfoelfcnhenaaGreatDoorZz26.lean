import Derived.Test.YtlcfoelfcnhenaaGreatDoorZz14
import Derived.Test.YtlcfoelfcnhenaaGreatDoorZz25
import Derived.Test.YtlcfoelfcnhenaaGreatDoorZz24
import Derived.Test.YtlcfoelfcnhenaaGreatDoorZz15
import Derived.Test.YtlcfoelfcnhenaaGreatDoorZz17
set_option linter.unusedSimpArgs false
set_option linter.unusedVariables false
set_option maxRecDepth 10000
namespace Go.Proofs.YtlcfoelfcnhenaaGreatDoor
section
open Go.Eng Go.RowKit Go.Lib Go.Sort
def emS : ByteArray := ⟨#[]⟩
def wfB (x : Lt) : Bool :=
  if x.party < 0 ∨ 12 ≤ x.party ∨ x.number < 1 ∨ 1000000 < x.number ∨ x.sent < 0 ∨ 2000 < x.sent then false
  else if x.kind = 1 then decide (0 ≤ x.day) && decide (x.day ≤ 2000) && (x.sum == emS) && !(textS x.patch == emS)
  else if x.kind = 2 then x.day == 0 && blankB x.patch
  else if x.kind = 3 then x.day == 0 && blankB x.patch && (x.sum == emS)
  else false
theorem wf_ok (x : Lt) (hx : ltW x) : Does Tryz.prog 82 [ltV x] (.c (.bool (wfB x))) := by
  obtain ⟨w1, w2, w3, w4, w5, w6⟩ := hx
  have ct := text_ok x.patch w6
  have cb := blank_ok x.patch
  unfold wfB
  generalize textS x.patch = tx at *
  generalize hbl : blankB x.patch = bl at *
  refine Does.mk (fun _ => false) TT_ok Tryz.func82 rfl (by kernel_rfl) Tryz.ntmps82 rfl rfl fun E hT hE hN hR => ?_
  have hm := mixO hE
  (repeat (first | refine XK.n ?_ | refine XK.a ?_ | refine XK.b ?_)); refine XK.cond rfl (fun h1 => ?_) (fun h1 => ?_) <;> (try simp at h1)
  · (repeat (first | refine XK.n ?_ | refine XK.a ?_ | refine XK.b ?_))
    (first | refine XK.o ?_ | refine XK.p ?_)
    rw [if_pos (by omega)]
  rw [if_neg (by omega)]
  (repeat (first | refine XK.n ?_ | refine XK.a ?_ | refine XK.b ?_))
  (repeat (first | refine XK.n ?_ | refine XK.a ?_ | refine XK.b ?_)); refine XK.cond rfl (fun h2 => ?_) (fun h2 => ?_) <;> (try simp at h2)
  · rw [if_pos h2]
    (repeat (first | refine XK.n ?_ | refine XK.a ?_ | refine XK.b ?_)); refine XK.region ?_; refine XL.g ?_
    refine XL.callLG hE rfl rfl rfl rfl rfl rfl rfl (by first | (simp [AllP, impG]; done) | (simp only [AllP, impG]; grind)) rfl (fun hgd => ⟨ct, (by (repeat' (first | exact rfl | exact AvIs.refl _ | exact trivial | (intro i hi; rfl) | exact fun _ _ => ⟨rfl, AvIs.refl _⟩ | (intro i hi; rcases i with _ | _ | _ | _ | _ | _ | _ | i <;> first | rfl | exact absurd hi (by simp; done) | (simp at hi; omega)) | refine ⟨?_, ?_⟩)))⟩) rfl ?_
    refine XL.g ?_; refine XL.fin ?_; (repeat (first | refine XK.n ?_ | refine XK.a ?_ | refine XK.b ?_))
    (first | refine XK.o ?_ | refine XK.p ?_)
    simp [emS, bne]
  rw [if_neg h2]
  (repeat (first | refine XK.n ?_ | refine XK.a ?_ | refine XK.b ?_)); refine XK.cond rfl (fun h3 => ?_) (fun h3 => ?_) <;> (try simp at h3)
  · rw [if_pos h3]
    (repeat (first | refine XK.n ?_ | refine XK.a ?_ | refine XK.b ?_)); refine XK.region ?_; refine XL.g ?_
    refine XL.callLG hE rfl rfl rfl rfl rfl rfl rfl (by first | (simp [AllP, impG]; done) | (simp only [AllP, impG]; grind)) rfl (fun hgd => ⟨cb, (by (repeat' (first | exact rfl | exact AvIs.refl _ | exact trivial | (intro i hi; rfl) | exact fun _ _ => ⟨rfl, AvIs.refl _⟩ | (intro i hi; rcases i with _ | _ | _ | _ | _ | _ | _ | i <;> first | rfl | exact absurd hi (by simp; done) | (simp at hi; omega)) | refine ⟨?_, ?_⟩)))⟩) rfl ?_
    refine XL.g ?_; refine XL.fin ?_; (repeat (first | refine XK.n ?_ | refine XK.a ?_ | refine XK.b ?_))
    (first | refine XK.o ?_ | refine XK.p ?_)
    simp
  rw [if_neg h3]
  (repeat (first | refine XK.n ?_ | refine XK.a ?_ | refine XK.b ?_)); refine XK.cond rfl (fun h4 => ?_) (fun h4 => ?_) <;> (try simp at h4)
  · rw [if_pos h4]
    (repeat (first | refine XK.n ?_ | refine XK.a ?_ | refine XK.b ?_)); refine XK.region ?_; refine XL.g ?_
    refine XL.callLG hE rfl rfl rfl rfl rfl rfl rfl (by first | (simp [AllP, impG]; done) | (simp only [AllP, impG]; grind)) rfl (fun hgd => ⟨cb, (by (repeat' (first | exact rfl | exact AvIs.refl _ | exact trivial | (intro i hi; rfl) | exact fun _ _ => ⟨rfl, AvIs.refl _⟩ | (intro i hi; rcases i with _ | _ | _ | _ | _ | _ | _ | i <;> first | rfl | exact absurd hi (by simp; done) | (simp at hi; omega)) | refine ⟨?_, ?_⟩)))⟩) rfl ?_
    refine XL.g ?_; refine XL.fin ?_; (repeat (first | refine XK.n ?_ | refine XK.a ?_ | refine XK.b ?_))
    (first | refine XK.o ?_ | refine XK.p ?_)
    simp [emS]
  · rw [if_neg h4]
    (repeat (first | refine XK.n ?_ | refine XK.a ?_ | refine XK.b ?_))
    (first | refine XK.o ?_ | refine XK.p ?_)
    rfl
def ofB (k n : Int) (x : Lt) : Bool := x.kind == k && decide (x.party < n) && wfB x
theorem kind1_ok (k n : Int) (x : Lt) (hx : ltW x) : Does Tryz.prog 81 [ltV x, .rptr [.c (.int .i64 k)], .rptr [.c (.int .i64 n)]] (.c (.bool (ofB k n x))) := kind1_of k n x _ (wf_ok x hx)
def itoB (z : Int) : ByteArray := ⟨(Lib.itoa z).toArray⟩
def spS : ByteArray := ⟨#[32]⟩
def proS : ByteArray := ⟨#[112, 114, 111, 112, 111, 115, 101]⟩
def dgT (l : List Int) : Nat → ByteArray
  | 0 => proS
  | i + 1 => dgT l i ++ (spS ++ itoB (l.getD i default))
theorem dgT_len {l : List Int} (h : InL l) (h3 : l.length = 3) : ∀ i, i ≤ 3 → (dgT l i).size ≤ 7 + 22 * i
  | 0, _ => Nat.le_refl _
  | i + 1, hi => by
    have ih := dgT_len h h3 i (by omega)
    have h1 := h _ (getD_memT (l := l) (i := i) (by omega))
    have h2 := Lib.itoa_length_le _ h1.1 h1.2
    simp only [dgT, ByteArray.size_append]
    have h4 : (itoB (l.getD i default)).size = (Lib.itoa (l.getD i default)).length := rfl
    have h5 : spS.size = 1 := rfl
    omega
theorem textS_len (p : Pt) (hp : ptW p) : (textS p).size ≤ 100000 := by
  unfold textS
  split
  · exact Nat.zero_le _
  · obtain ⟨w1, w2, ⟨x1, x2, x3, x4, x5, x6, x7, x8, x9, x10, x11, x12⟩, w4⟩ := hp
    have h : InL (pL7 p) := by
      have i1 : InL (pL1 p) := ((InL.nil.snoc w1).snoc w4).snoc (by simp only [inK]; omega)
      have i2 : InL (pL2 p) := i1.app w2
      have i3 : InL (pL3 p) := i2.app ((((((InL.nil.snoc x1).snoc x2).snoc x3).snoc x4).snoc x6).snoc x7)
      have i4 : InL (pL4 p) := (i3.snoc (fl_in _)).snoc (fl_in _)
      have i5 : InL (pL5 p) := i4.app ((((((InL.nil.snoc x8).snoc x9).snoc x10.1).snoc x10.2).snoc x11).snoc x12)
      have i6 : InL (pL6 p) := (i5.snoc (fl_in _)).snoc (by simp only [inK]; omega)
      exact i6.app (cdL_in x5)
    have h1 := wrL_len h
    have h2 : (pL7 p).length ≤ 500 := by
      simp only [pL7, pL6, pL5, pL4, pL3, pL2, pL1, six1, six2, List.length_append, List.length_cons, List.length_nil, cdL_len]
      omega
    show (patchB ++ wrL (pL7 p)).length ≤ 100000
    simp only [List.length_append, patchB, List.length_cons, List.length_nil]
    omega
def digS (x : Lt) : ByteArray := if ofB 1 12 x = true then sumS (dgT [x.party, x.number, x.day] 3 ++ spS ++ textS x.patch) else emS
theorem digest_ok (x : Lt) (hx : ltW x) : Does Tryz.prog 15 [ltV x] (.c (.string (digS x))) := by
  have ck := kind1_ok 1 12 x hx
  have ct := text_ok x.patch hx.2.2.2.2.2
  have hpt := textS_len x.patch hx.2.2.2.2.2
  have hL : InL [x.party, x.number, x.day] := ((InL.nil.snoc hx.2.1).snoc hx.2.2.1).snoc hx.2.2.2.2.1
  have hdl := dgT_len hL rfl
  unfold digS
  generalize ofB 1 12 x = ob at *
  refine Does.mk (fun _ => false) TT_ok Tryz.func15 rfl (by kernel_rfl) Tryz.ntmps15 rfl rfl fun E hT hE hN hR => ?_
  have hm := mixO hE
  (repeat (first | refine XK.n ?_ | refine XK.a ?_ | refine XK.b ?_)); refine XK.drawn hm ?_; refine XD.goA hT rfl rfl rfl rfl ?_
  refine XD.callKA hE rfl rfl rfl rfl trivial rfl rfl (ofKind_ok 1 12) ?_
  refine XD.goA hT rfl rfl rfl rfl ?_
  refine XD.callLA hE rfl rfl rfl rfl trivial rfl (ck) rfl ?_
  refine XD.goA hT rfl rfl rfl rfl ?_; refine XD.fin (by kernel_rfl) ?_; (repeat (first | refine XK.n ?_ | refine XK.a ?_ | refine XK.b ?_))
  (repeat (first | refine XK.n ?_ | refine XK.a ?_ | refine XK.b ?_)); refine XK.cond rfl (fun h1 => ?_) (fun h1 => ?_) <;> (try simp at h1)
  · (repeat (first | refine XK.n ?_ | refine XK.a ?_ | refine XK.b ?_))
    (first | refine XK.o ?_ | refine XK.p ?_)
    subst h1; rfl
  subst h1
  rw [if_pos rfl]
  generalize hl3 : [x.party, x.number, x.day] = l3 at *
  (repeat (first | refine XK.n ?_ | refine XK.a ?_ | refine XK.b ?_))
  refine XK.loop (ι := Nat) (fun i => ST.of [(1, .ptr 1 0), (3, .c (.string (dgT l3 i))), (16, .agg [.c (.int .i64 x.party), .c (.int .i64 x.number), .c (.int .i64 x.day)]), (17, .c (.int .i64 i))] [(1, .cells 60 (ltC x))] 1000 33 (fun _ => false))
    (fun i => i ≤ 3) (fun i => 3 - i) 0 (Nat.zero_le _) (Weak.of hN rfl rfl rfl frI frI) fun i hi => ?_
  (repeat (first | refine XK.n ?_ | refine XK.a ?_ | refine XK.b ?_)); refine XK.cond rfl (fun h2 => ?_) (fun h2 => ?_) <;> (try simp at h2)
  · have fw : [AV.c (.int .i64 x.party), .c (.int .i64 x.number), .c (.int .i64 x.day)].getD (i : Int).toNat .junk = .c (.int .i64 (l3.getD i default)) := by
      have : i < 3 := by omega
      rw [← hl3]
      rcases i with _ | _ | _ | i <;> first | rfl | (exfalso; omega)
    have hz := hL _ (getD_memT (l := l3) (i := i) (by rw [← hl3]; show i < 3; omega))
    have hst : dgT l3 (i + 1) = dgT l3 i ++ (spS ++ itoB (l3.getD i default)) := rfl
    have hd1 := hdl (i + 1) (by omega)
    rw [hst] at hd1
    have hlz := Lib.itoa_length_le _ hz.1 hz.2
    have o1 : ((spS.size + (itoB (l3.getD i default)).size : Nat) : Int) ≤ 9223372036854775807 := by
      have h4 : (itoB (l3.getD i default)).size = (Lib.itoa (l3.getD i default)).length := rfl
      have h5 : spS.size = 1 := rfl
      omega
    have o2 : (((dgT l3 i).size + (spS ++ itoB (l3.getD i default)).size : Nat) : Int) ≤ 9223372036854775807 := by rw [← ByteArray.size_append]; omega
    refine XK.norm rfl rfl ?_
    refine XK.region ?_
    refine XL.indexA hT rfl rfl rfl rfl rfl rfl rfl rfl rfl rfl rfl (by omega) (by simp) ?_
    rw [fw]
    refine XL.g ?_
    refine XL.fin ?_
    (repeat (first | refine XK.n ?_ | refine XK.a ?_ | refine XK.b ?_)); refine XK.region ?_; refine XL.g ?_
    refine XL.callLA hE rfl rfl rfl rfl trivial rfl (itoa_ok (l3.getD i default) hz.1 hz.2) rfl ?_
    refine XL.goA hT rfl rfl rfl rfl (ho := ⟨o1, o2⟩) ?_
    refine XL.fin ?_
    (repeat (first | refine XK.n ?_ | refine XK.a ?_ | refine XK.b ?_))
    refine XK.inv ⟨i + 1, by omega, ?_, by omega⟩
    rw [hst]
    exact Weak.of hN rfl rfl rfl frV frI
  have hie : i = 3 := by omega
  subst hie
  have hd3 := hdl 3 (Nat.le_refl _)
  generalize dgT l3 3 = d3 at *
  have h5 : spS.size = 1 := rfl
  have o1 : ((d3.size + spS.size : Nat) : Int) ≤ 9223372036854775807 := by omega
  have o2 : (((d3 ++ spS).size + (textS x.patch).size : Nat) : Int) ≤ 9223372036854775807 := by rw [ByteArray.size_append]; omega
  (repeat (first | refine XK.n ?_ | refine XK.a ?_ | refine XK.b ?_))
  refine XK.region ?_
  refine XL.goA hT rfl rfl rfl rfl (ho := o1) ?_
  refine XL.callLA hE rfl rfl rfl rfl trivial rfl (ct) rfl ?_
  refine XL.goA hT rfl rfl rfl rfl (ho := o2) ?_
  refine XL.callLA hE rfl rfl rfl rfl trivial rfl (sum_ok (d3 ++ spS ++ textS x.patch) (by rw [ByteArray.size_append, ByteArray.size_append]; omega)) rfl ?_
  refine XL.g ?_; refine XL.fin ?_; (repeat (first | refine XK.n ?_ | refine XK.a ?_ | refine XK.b ?_))
  (first | refine XK.o ?_ | refine XK.p ?_)
  rfl
end
section
open Go.Eng Go.RowKit Go.Lib Go.Sort
theorem Weak.mapS {E : Env} {st : ST} {k : Nat} {kk : KK} {zv : Value} {d : Value → Bool} {f f' : Value → AV} (hk : st.ob k = some (.mapb kk zv d f)) (h : ∀ v, kk.has v = true → AvS (f v) (f' v)) : Weak E st { st with ob := upd st.ob k (some (.mapb kk zv d f')) } := by
  rintro a w ⟨ρ, hs⟩
  refine ⟨ρ, hs.keep, hs.tsz, hs.dfr, hs.gl, hs.fr, fun j o hj => ?_, fun j hj => ?_, hs.dis, hs.own, hs.le⟩
  · by_cases hjk : j = k
    · subst hjk
      have hj : upd st.ob j (some (.mapb kk zv d f')) j = some o := hj
      rw [upd_same] at hj
      injection hj with hj
      subst hj
      obtain ⟨g, es, clock, h1, h2, h3, h4⟩ := hs.ob j _ hk
      refine ⟨g, es, clock, h1, h2, h3, fun v hv => ?_⟩
      obtain ⟨r, r1, r2, r3⟩ := h4 v hv
      exact ⟨r, r1, r2, h v hv _ _ _ _ r3⟩
    · have hj : upd st.ob k (some (.mapb kk zv d f')) j = some o := hj
      rw [upd_other _ _ hjk] at hj
      exact hs.ob j o hj
  · by_cases hjk : j = k
    · subst hjk
      have hj : upd st.ob j (some (.mapb kk zv d f')) j = none := hj
      rw [upd_same] at hj
      cases hj
    · have hj : upd st.ob k (some (.mapb kk zv d f')) j = none := hj
      rw [upd_other _ _ hjk] at hj
      exact hs.no j hj
structure Px where
  l : Lt
  sum : ByteArray
  known : Int
instance : Inhabited Px := ⟨⟨default, ⟨#[]⟩, 0⟩⟩
def dPx : Px := ⟨⟨0, 0, 0, 0, 0, ⟨0, [], ⟨0, 0, 0, 0, [], 0, 0, false, false, 0, 0, (0, 0), 0, 0, false⟩, 0⟩, ⟨#[]⟩⟩, ⟨#[]⟩, 0⟩
def pxC (p : Px) : List AV := [.c (.int .i64 p.l.kind), .c (.int .i64 p.l.party), .c (.int .i64 p.l.number), .c (.int .i64 p.l.sent), .c (.int .i64 p.l.day), .c (.int .i64 p.l.patch.kind), intsV p.l.patch.clauses, .c (.int .i64 p.l.patch.new.kind), .c (.int .i64 p.l.patch.new.role), .c (.int .i64 p.l.patch.new.act), .c (.int .i64 p.l.patch.new.need), cndsV p.l.patch.new.start, .c (.int .i64 p.l.patch.new.after), .c (.int .i64 p.l.patch.new.grace), .c (.bool p.l.patch.new.business), .c (.bool p.l.patch.new.final), .c (.int .i64 p.l.patch.new.pause), .c (.int .i64 p.l.patch.new.resume), .c (.int .i64 p.l.patch.new.value.1), .c (.int .i64 p.l.patch.new.value.2), .c (.int .i64 p.l.patch.new.unit), .c (.int .i64 p.l.patch.new.to), .c (.bool p.l.patch.new.waived), .c (.int .i64 p.l.patch.days), .c (.string p.l.sum), .c (.string p.sum), .c (.int .i64 p.known)]
def pxV (p : Px) : AV := .agg [.c (.int .i64 p.l.kind), .c (.int .i64 p.l.party), .c (.int .i64 p.l.number), .c (.int .i64 p.l.sent), .c (.int .i64 p.l.day), .c (.int .i64 p.l.patch.kind), intsV p.l.patch.clauses, .c (.int .i64 p.l.patch.new.kind), .c (.int .i64 p.l.patch.new.role), .c (.int .i64 p.l.patch.new.act), .c (.int .i64 p.l.patch.new.need), cndsV p.l.patch.new.start, .c (.int .i64 p.l.patch.new.after), .c (.int .i64 p.l.patch.new.grace), .c (.bool p.l.patch.new.business), .c (.bool p.l.patch.new.final), .c (.int .i64 p.l.patch.new.pause), .c (.int .i64 p.l.patch.new.resume), .c (.int .i64 p.l.patch.new.value.1), .c (.int .i64 p.l.patch.new.value.2), .c (.int .i64 p.l.patch.new.unit), .c (.int .i64 p.l.patch.new.to), .c (.bool p.l.patch.new.waived), .c (.int .i64 p.l.patch.days), .c (.string p.l.sum), .c (.string p.sum), .c (.int .i64 p.known)]
def zPx : Value := .agg #[.int .i64 0, .int .i64 0, .int .i64 0, .int .i64 0, .int .i64 0, .int .i64 0, .slice none 0 0, .int .i64 0, .int .i64 0, .int .i64 0, .int .i64 0, .slice none 0 0, .int .i64 0, .int .i64 0, .bool false, .bool false, .int .i64 0, .int .i64 0, .int .i64 0, .int .i64 0, .int .i64 0, .int .i64 0, .bool false, .int .i64 0, .string { data := #[] }, .string { data := #[] }, .int .i64 0]
abbrev PrM := Value → Option Px
def prO (m : PrM) : Ob := .mapb .str zPx (fun v => (m v).isSome) (fun v => pxV ((m v).getD dPx))
def prPut (m : PrM) (x : Lt) : PrM := fun u => bif keyEq u (.string (digS x)) then some ⟨x, digS x, 0⟩ else m u
def prStep (n : Int) (m : PrM) (x : Lt) : PrM := if ofB 1 n x = true then (if (!(m (.string (digS x))).isSome || decide (x.sent < ((m (.string (digS x))).getD dPx).l.sent)) = true then prPut m x else m) else m
def prT (n : Int) (l : List Lt) : Nat → PrM
  | 0 => fun _ => none
  | i + 1 => prStep n (prT n l i) (l.getD i default)
theorem prPut_is (m : PrM) (x : Lt) (v : Value) : (prPut m x v).isSome = (keyEq v (.string (digS x)) || (m v).isSome) ∧ AvIs (bif keyEq v (.string (digS x)) then pxV ⟨x, digS x, 0⟩ else pxV ((m v).getD dPx)) (pxV ((prPut m x v).getD dPx)) := by
  unfold prPut
  cases keyEq v (.string (digS x)) with
  | true => exact ⟨rfl, AvIs.refl _⟩
  | false => exact ⟨rfl, AvIs.refl _⟩
theorem zPx_is : AvSL [AV.c (.int .i64 0), AV.c (.int .i64 0), AV.c (.int .i64 0), AV.c (.int .i64 0), AV.c (.int .i64 0), AV.c (.int .i64 0), .c (.slice none 0 0), AV.c (.int .i64 0), AV.c (.int .i64 0), AV.c (.int .i64 0), AV.c (.int .i64 0), .c (.slice none 0 0), AV.c (.int .i64 0), AV.c (.int .i64 0), .c (.bool false), .c (.bool false), AV.c (.int .i64 0), AV.c (.int .i64 0), AV.c (.int .i64 0), AV.c (.int .i64 0), AV.c (.int .i64 0), AV.c (.int .i64 0), .c (.bool false), AV.c (.int .i64 0), .c (.string { data := #[] }), .c (.string { data := #[] }), AV.c (.int .i64 0)] [.c (.int .i64 dPx.l.kind), .c (.int .i64 dPx.l.party), .c (.int .i64 dPx.l.number), .c (.int .i64 dPx.l.sent), .c (.int .i64 dPx.l.day), .c (.int .i64 dPx.l.patch.kind), intsV dPx.l.patch.clauses, .c (.int .i64 dPx.l.patch.new.kind), .c (.int .i64 dPx.l.patch.new.role), .c (.int .i64 dPx.l.patch.new.act), .c (.int .i64 dPx.l.patch.new.need), cndsV dPx.l.patch.new.start, .c (.int .i64 dPx.l.patch.new.after), .c (.int .i64 dPx.l.patch.new.grace), .c (.bool dPx.l.patch.new.business), .c (.bool dPx.l.patch.new.final), .c (.int .i64 dPx.l.patch.new.pause), .c (.int .i64 dPx.l.patch.new.resume), .c (.int .i64 dPx.l.patch.new.value.1), .c (.int .i64 dPx.l.patch.new.value.2), .c (.int .i64 dPx.l.patch.new.unit), .c (.int .i64 dPx.l.patch.new.to), .c (.bool dPx.l.patch.new.waived), .c (.int .i64 dPx.l.patch.days), .c (.string dPx.l.sum), .c (.string dPx.sum), .c (.int .i64 dPx.known)] := by
  refine ⟨AvS.refl _, AvS.refl _, AvS.refl _, AvS.refl _, AvS.refl _, AvS.refl _, AvS.nil, AvS.refl _, AvS.refl _, AvS.refl _, AvS.refl _, AvS.nil, AvS.refl _, AvS.refl _, AvS.refl _, AvS.refl _, AvS.refl _, AvS.refl _, AvS.refl _, AvS.refl _, AvS.refl _, AvS.refl _, AvS.refl _, AvS.refl _, AvS.refl _, AvS.refl _, AvS.refl _, trivial⟩
theorem proposals_ok (n : Int) (l : List Lt) (hl : ∀ x ∈ l, ltW x) (h4 : l.length ≤ 4000) : DoesM Tryz.prog 18 [.c (.int .i64 n), ltsV l] [] (.mp 0) [prO (prT n l l.length)] := by
  refine DoesM.mk (fun _ => false) 100 TT_ok Tryz.func18 rfl (by kernel_rfl) Tryz.ntmps18 rfl rfl rfl fun E hT hE hN hR => ?_
  have hm := mixO hE
  (repeat (first | refine XK.n ?_ | refine XK.a ?_ | refine XK.b ?_))
  (repeat (first | refine XK.n ?_ | refine XK.a ?_ | refine XK.b ?_)); refine XK.region ?_; refine XL.g ?_
  refine XL.callKA hE rfl rfl rfl rfl trivial rfl rfl (ofKind_ok 1 n) ?_
  refine XL.g ?_; refine XL.fin ?_; (repeat (first | refine XK.n ?_ | refine XK.a ?_ | refine XK.b ?_))
  refine XK.loop (ι := Nat) (fun i => ST.of [(5, .mp 162), (6, .fn (.func 81) [] [.rptr [.c (.int .i64 1)], .rptr [.c (.int .i64 n)]]), (15, ltsV l), (16, .c (.int .i64 l.length)), (17, .c (.int .i64 i))] [(162, prO (prT n l i))] 1000 50 (fun _ => false))
    (fun i => i ≤ l.length) (fun i => l.length - i) 0 (Nat.zero_le _) (Weak.trans (Weak.mapS (k := 162) (f' := fun _ => pxV dPx) rfl (fun v hv => AvS.agg zPx_is)) (Weak.of hN rfl rfl rfl frI frI)) fun i hi => ?_
  (repeat (first | refine XK.n ?_ | refine XK.a ?_ | refine XK.b ?_)); refine XK.cond rfl (fun h1 => ?_) (fun h1 => ?_) <;> (try simp at h1)
  · have fx : l.getD (i : Int).toNat default = l.getD i default := rfl
    have hx := hl _ (getD_memT (l := l) (i := i) h1)
    have hst : prT n l (i + 1) = prStep n (prT n l i) (l.getD i default) := rfl
    (repeat (first | refine XK.n ?_ | refine XK.a ?_ | refine XK.b ?_))
    rw [fx]
    generalize l.getD i default = x at *
    generalize prT n l i = m at *
    have ck := kind1_ok 1 n x hx
    have cd := digest_ok x hx
    (repeat (first | refine XK.n ?_ | refine XK.a ?_ | refine XK.b ?_)); refine XK.region ?_; refine XL.g ?_
    refine XL.callLA hE rfl rfl rfl rfl trivial rfl (ck) rfl ?_
    refine XL.g ?_; refine XL.fin ?_; (repeat (first | refine XK.n ?_ | refine XK.a ?_ | refine XK.b ?_))
    (repeat (first | refine XK.n ?_ | refine XK.a ?_ | refine XK.b ?_)); refine XK.cond rfl (fun h2 => ?_) (fun h2 => ?_)
    · (repeat (first | refine XK.n ?_ | refine XK.a ?_ | refine XK.b ?_))
      refine XK.inv ⟨i + 1, h1, ?_, by omega⟩
      rw [hst, prStep, if_neg (by simpa using h2)]
      exact (Weak.of hN rfl rfl rfl frI frI)
    have h2 : ofB 1 n x = true := by simpa using h2
    (repeat (first | refine XK.n ?_ | refine XK.a ?_ | refine XK.b ?_))
    (repeat (first | refine XK.n ?_ | refine XK.a ?_ | refine XK.b ?_)); refine XK.region ?_; refine XL.g ?_
    refine XL.callLA hE rfl rfl rfl rfl trivial rfl (cd) rfl ?_
    refine XL.g ?_; refine XL.fin ?_; (repeat (first | refine XK.n ?_ | refine XK.a ?_ | refine XK.b ?_))
    unfold prStep at hst
    rw [if_pos h2] at hst
    (repeat (first | refine XK.n ?_ | refine XK.a ?_ | refine XK.b ?_)); refine XK.cond rfl (fun h3 => ?_) (fun h3 => ?_)
    · rw [if_pos h3] at hst
      (repeat (first | refine XK.n ?_ | refine XK.a ?_ | refine XK.b ?_))
      refine XK.inv ⟨i + 1, h1, ?_, by omega⟩
      rw [hst]
      exact Weak.of hN rfl rfl rfl frV ⟨rfl, rfl, fun v hv => prPut_is m x v⟩
    · rw [if_neg (by rw [h3]; simp)] at hst
      (repeat (first | refine XK.n ?_ | refine XK.a ?_ | refine XK.b ?_))
      refine XK.inv ⟨i + 1, h1, ?_, by omega⟩
      rw [hst]
      exact (Weak.of hN rfl rfl rfl frI frI)
  have hie : i = l.length := by omega
  subst hie
  (repeat (first | refine XK.n ?_ | refine XK.a ?_ | refine XK.b ?_))
  (first | refine XK.outR [162] hN rfl rfl rfl ?_ rfl rfl ?_ | refine XK.outRN [162] hN rfl rfl rfl ?_ rfl rfl ?_)
  · exact frI
  · exact frI
end
section
open Go.Eng Go.RowKit Go.Lib Go.Sort
abbrev AcM := Value → Option Int
def kkA : KK := .leaf [.int .i64, .int .i64, .str]
def acO (m : AcM) : Ob := .mapb (.leaf [.int .i64, .int .i64, .str]) (.int .i64 0) (fun v => (m v).isSome) (fun v => .c (.int .i64 ((m v).getD 0)))
def acK (p n : Int) (s : ByteArray) : Value := .agg #[.int .i64 p, .int .i64 n, .string s]
def acPut (m : AcM) (x : Lt) : AcM := fun u => bif keyEq u (acK x.party x.number x.sum) then some x.sent else m u
def acStep (n : Int) (m : AcM) (x : Lt) : AcM := if ofB 2 n x = true then (if (!(m (acK x.party x.number x.sum)).isSome || decide (x.sent < (m (acK x.party x.number x.sum)).getD 0)) = true then acPut m x else m) else m
def acT (n : Int) (l : List Lt) : Nat → AcM
  | 0 => fun _ => none
  | i + 1 => acStep n (acT n l i) (l.getD i default)
theorem acPut_is (m : AcM) (x : Lt) (v : Value) : (acPut m x v).isSome = (keyEq v (acK x.party x.number x.sum) || (m v).isSome) ∧ AvIs (bif keyEq v (acK x.party x.number x.sum) then .c (.int .i64 x.sent) else .c (.int .i64 ((m v).getD 0))) (.c (.int .i64 ((acPut m x v).getD 0))) := by
  unfold acPut
  cases keyEq v (acK x.party x.number x.sum) with
  | true => exact ⟨rfl, AvIs.refl _⟩
  | false => exact ⟨rfl, AvIs.refl _⟩
theorem acceptances_ok (n : Int) (l : List Lt) (hl : ∀ x ∈ l, ltW x) (h4 : l.length ≤ 4000) : DoesM Tryz.prog 19 [.c (.int .i64 n), ltsV l] [] (.mp 0) [acO (acT n l l.length)] := by
  refine DoesM.mk (fun _ => false) 100 TT_ok Tryz.func19 rfl (by kernel_rfl) Tryz.ntmps19 rfl rfl rfl fun E hT hE hN hR => ?_
  have hm := mixO hE
  (repeat (first | refine XK.n ?_ | refine XK.a ?_ | refine XK.b ?_))
  (repeat (first | refine XK.n ?_ | refine XK.a ?_ | refine XK.b ?_)); refine XK.region ?_; refine XL.g ?_
  refine XL.callKA hE rfl rfl rfl rfl trivial rfl rfl (ofKind_ok 2 n) ?_
  refine XL.g ?_; refine XL.fin ?_; (repeat (first | refine XK.n ?_ | refine XK.a ?_ | refine XK.b ?_))
  refine XK.loop (ι := Nat) (fun i => ST.of [(5, .mp 165), (6, .fn (.func 81) [] [.rptr [.c (.int .i64 2)], .rptr [.c (.int .i64 n)]]), (15, ltsV l), (16, .c (.int .i64 l.length)), (17, .c (.int .i64 i))] [(165, acO (acT n l i))] 1000 53 (fun _ => false))
    (fun i => i ≤ l.length) (fun i => l.length - i) 0 (Nat.zero_le _) (Weak.of hN rfl rfl rfl frI frI) fun i hi => ?_
  (repeat (first | refine XK.n ?_ | refine XK.a ?_ | refine XK.b ?_)); refine XK.cond rfl (fun h1 => ?_) (fun h1 => ?_) <;> (try simp at h1)
  · have fx : l.getD (i : Int).toNat default = l.getD i default := rfl
    have hx := hl _ (getD_memT (l := l) (i := i) h1)
    have hst : acT n l (i + 1) = acStep n (acT n l i) (l.getD i default) := rfl
    (repeat (first | refine XK.n ?_ | refine XK.a ?_ | refine XK.b ?_))
    rw [fx]
    generalize l.getD i default = x at *
    generalize acT n l i = m at *
    have ck := kind1_ok 2 n x hx
    (repeat (first | refine XK.n ?_ | refine XK.a ?_ | refine XK.b ?_)); refine XK.region ?_; refine XL.g ?_
    refine XL.callLA hE rfl rfl rfl rfl trivial rfl (ck) rfl ?_
    refine XL.g ?_; refine XL.fin ?_; (repeat (first | refine XK.n ?_ | refine XK.a ?_ | refine XK.b ?_))
    (repeat (first | refine XK.n ?_ | refine XK.a ?_ | refine XK.b ?_)); refine XK.cond rfl (fun h2 => ?_) (fun h2 => ?_)
    · (repeat (first | refine XK.n ?_ | refine XK.a ?_ | refine XK.b ?_))
      refine XK.inv ⟨i + 1, h1, ?_, by omega⟩
      rw [hst, acStep, if_neg (by simpa using h2)]
      exact (Weak.of hN rfl rfl rfl frI frI)
    have h2 : ofB 2 n x = true := by simpa using h2
    unfold acStep acK at hst
    rw [if_pos h2] at hst
    (repeat (first | refine XK.n ?_ | refine XK.a ?_ | refine XK.b ?_)); refine XK.cond rfl (fun h3 => ?_) (fun h3 => ?_)
    · rw [if_pos h3] at hst
      (repeat (first | refine XK.n ?_ | refine XK.a ?_ | refine XK.b ?_))
      refine XK.inv ⟨i + 1, h1, ?_, by omega⟩
      rw [hst]
      exact Weak.of hN rfl rfl rfl frV ⟨rfl, rfl, fun v hv => acPut_is m x v⟩
    · rw [if_neg (by rw [h3]; simp)] at hst
      (repeat (first | refine XK.n ?_ | refine XK.a ?_ | refine XK.b ?_))
      refine XK.inv ⟨i + 1, h1, ?_, by omega⟩
      rw [hst]
      exact (Weak.of hN rfl rfl rfl frI frI)
  have hie : i = l.length := by omega
  subst hie
  (repeat (first | refine XK.n ?_ | refine XK.a ?_ | refine XK.b ?_))
  (first | refine XK.outR [165] hN rfl rfl rfl ?_ rfl rfl ?_ | refine XK.outRN [165] hN rfl rfl rfl ?_ rfl rfl ?_)
  · exact frI
  · exact frI
def mx2 (a b : Int) : Int := if a < b then b else a
def knM (p : Px) (m : AcM) : Nat → Int
  | 0 => p.l.sent
  | i + 1 => if (i : Int) = p.l.party then knM p m i else mx2 (knM p m i) ((m (acK i p.l.number p.sum)).getD 0)
theorem knownNo_ok (p : Px) (n : Int) (m : AcM) (q : Nat) (hq : (q : Int) < n) (hqp : (q : Int) ≠ p.l.party) (hac : m (acK q p.l.number p.sum) = none) (hn : n ≤ 12) : DoesM Tryz.prog 20 [pxV p, .c (.int .i64 n), .mp 0] [acO m] (.c (.int .i64 (-1))) [acO m] := by
  refine DoesM.mk (fun _ => false) 100 TT_ok Tryz.func20 rfl (by kernel_rfl) Tryz.ntmps20 rfl rfl rfl fun E hT hE hN hR => ?_
  have hm := mixO hE
  (repeat (first | refine XK.n ?_ | refine XK.a ?_ | refine XK.b ?_))
  refine XK.loop (ι := Nat) (fun i => ST.of [(2, .mp 0), (3, .ptr 103 0), (7, .c (.int .i64 (knM p m i))), (14, .c (.int .i64 n)), (15, .c (.int .i64 i))] [(0, acO m), (103, .cells 70 (pxC p))] 1000 43 (fun _ => false))
    (fun i => i ≤ q) (fun i => q - i) 0 (Nat.zero_le _) (Weak.of hN rfl rfl rfl frI frI) fun i hi => ?_
  (repeat (first | refine XK.n ?_ | refine XK.a ?_ | refine XK.b ?_)); refine XK.cond rfl (fun h1 => ?_) (fun h1 => ?_) <;> (try simp at h1)
  · have hst : knM p m (i + 1) = if (i : Int) = p.l.party then knM p m i else mx2 (knM p m i) ((m (acK i p.l.number p.sum)).getD 0) := rfl
    (repeat (first | refine XK.n ?_ | refine XK.a ?_ | refine XK.b ?_)); refine XK.cond rfl (fun h2 => ?_) (fun h2 => ?_) <;> (try simp at h2)
    · rw [if_pos h2] at hst
      have hiq : i ≠ q := fun e => by subst e; exact hqp h2
      (repeat (first | refine XK.n ?_ | refine XK.a ?_ | refine XK.b ?_))
      refine XK.inv ⟨i + 1, by omega, ?_, by omega⟩
      rw [hst]
      exact (Weak.of hN rfl rfl rfl frI frI)
    rw [if_neg h2] at hst
    (repeat (first | refine XK.n ?_ | refine XK.a ?_ | refine XK.b ?_)); refine XK.cond rfl (fun h3 => ?_) (fun h3 => ?_)
    · (repeat (first | refine XK.n ?_ | refine XK.a ?_ | refine XK.b ?_))
      (first | refine XK.outR [0] hN rfl rfl rfl ?_ rfl rfl ?_ | refine XK.outRN [0] hN rfl rfl rfl ?_ rfl rfl ?_)
      · exact frI
      · exact frI
    · have hiq : i ≠ q := fun e => by
        subst e
        have h3 : (!(m (acK i p.l.number p.sum)).isSome) = false := h3
        rw [hac] at h3
        cases h3
      (repeat (first | refine XK.n ?_ | refine XK.a ?_ | refine XK.b ?_))
      refine XK.inv ⟨i + 1, by omega, ?_, by omega⟩
      rw [hst]
      exact Weak.of hN rfl rfl rfl frI frI
  · omega
theorem knownAll_ok (p : Px) (n : Nat) (m : AcM) (hac : ∀ i : Nat, i < n → (i : Int) = p.l.party ∨ (m (acK i p.l.number p.sum)).isSome = true) (hn : n ≤ 12) : DoesM Tryz.prog 20 [pxV p, .c (.int .i64 n), .mp 0] [acO m] (.c (.int .i64 (knM p m n))) [acO m] := by
  refine DoesM.mk (fun _ => false) 100 TT_ok Tryz.func20 rfl (by kernel_rfl) Tryz.ntmps20 rfl rfl rfl fun E hT hE hN hR => ?_
  have hm := mixO hE
  (repeat (first | refine XK.n ?_ | refine XK.a ?_ | refine XK.b ?_))
  refine XK.loop (ι := Nat) (fun i => ST.of [(2, .mp 0), (3, .ptr 103 0), (7, .c (.int .i64 (knM p m i))), (14, .c (.int .i64 n)), (15, .c (.int .i64 i))] [(0, acO m), (103, .cells 70 (pxC p))] 1000 43 (fun _ => false))
    (fun i => i ≤ n) (fun i => n - i) 0 (Nat.zero_le _) (Weak.of hN rfl rfl rfl frI frI) fun i hi => ?_
  (repeat (first | refine XK.n ?_ | refine XK.a ?_ | refine XK.b ?_)); refine XK.cond rfl (fun h1 => ?_) (fun h1 => ?_) <;> (try simp at h1)
  · have hst : knM p m (i + 1) = if (i : Int) = p.l.party then knM p m i else mx2 (knM p m i) ((m (acK i p.l.number p.sum)).getD 0) := rfl
    (repeat (first | refine XK.n ?_ | refine XK.a ?_ | refine XK.b ?_)); refine XK.cond rfl (fun h2 => ?_) (fun h2 => ?_) <;> (try simp at h2)
    · rw [if_pos h2] at hst
      (repeat (first | refine XK.n ?_ | refine XK.a ?_ | refine XK.b ?_))
      refine XK.inv ⟨i + 1, by omega, ?_, by omega⟩
      rw [hst]
      exact (Weak.of hN rfl rfl rfl frI frI)
    rw [if_neg h2] at hst
    (repeat (first | refine XK.n ?_ | refine XK.a ?_ | refine XK.b ?_)); refine XK.cond rfl (fun h3 => ?_) (fun h3 => ?_)
    · exfalso
      have h3 : (!(m (acK i p.l.number p.sum)).isSome) = true := h3
      rcases hac i h1 with h | h
      · exact h2 h
      · rw [h] at h3; cases h3
    · (repeat (first | refine XK.n ?_ | refine XK.a ?_ | refine XK.b ?_))
      refine XK.inv ⟨i + 1, by omega, ?_, by omega⟩
      rw [hst]
      exact Weak.of hN rfl rfl rfl frI frI
  · have hie : i = n := by omega
    subst hie
    (repeat (first | refine XK.n ?_ | refine XK.a ?_ | refine XK.b ?_))
    (first | refine XK.outR [0] hN rfl rfl rfl ?_ rfl rfl ?_ | refine XK.outRN [0] hN rfl rfl rfl ?_ rfl rfl ?_)
    · exact frI
    · exact frI
end
section
open Go.Eng Go.RowKit Go.Lib Go.Sort
def codZ (z : Int) : Nat := if 0 ≤ z then 2 * z.toNat else 2 * (-z).toNat + 1
theorem codZ_inj {a b : Int} (h : codZ a = codZ b) : a = b := by
  unfold codZ at h
  split at h <;> split at h <;> omega
def pairN (a b : Nat) : Nat := (a + b) * (a + b) + a
theorem pairN_inj {a b c d : Nat} (h : pairN a b = pairN c d) : a = c ∧ b = d := by
  unfold pairN at h
  have key : ∀ {s t a c : Nat}, a ≤ s → c ≤ t → s * s + a = t * t + c → ¬ s < t := fun {s t a c} h1 h2 h3 h4 => by
    have h5 : (s + 1) * (s + 1) ≤ t * t := Nat.mul_le_mul h4 h4
    have h6 : (s + 1) * (s + 1) = s * s + 2 * s + 1 := by rw [Nat.add_mul, Nat.mul_add]; omega
    omega
  have h1 : ¬ a + b < c + d := key (by omega) (by omega) h
  have h2 : ¬ c + d < a + b := key (by omega) (by omega) h.symm
  have h3 : a + b = c + d := by omega
  rw [h3] at h
  omega
def encS : Value → Nat
  | .agg a => match a.toList with
    | [.int _ x, .int _ y] => pairN (codZ x) (codZ y)
    | _ => 0
  | .int _ z => codZ z
  | _ => 0
def kkS : KK := .leaf [.int .i64, .int .i64]
def slK (p n : Int) : Value := .agg #[.int .i64 p, .int .i64 n]
theorem kkS_inv {v : Value} (h : kkS.has v = true) : ∃ p n, v = slK p n := by
  cases v <;> simp only [kkS, KK.has, Bool.false_eq_true] at h
  rename_i cs
  obtain ⟨l⟩ := cs
  simp only at h
  rcases l with _ | ⟨x, _ | ⟨y, _ | ⟨z, l⟩⟩⟩ <;> simp only [LK.hasL, Bool.and_eq_true, Bool.false_eq_true, and_false, false_and] at h
  obtain ⟨h1, h2, _⟩ := h
  cases x <;> simp only [LK.has, Bool.false_eq_true, decide_eq_true_eq] at h1
  cases y <;> simp only [LK.has, Bool.false_eq_true, decide_eq_true_eq] at h2
  subst h1 h2
  exact ⟨_, _, rfl⟩
theorem encS_inj : ∀ u v : Value, kkS.has u = true → kkS.has v = true → encS u = encS v → u = v := by
  intro u v hu hv h
  obtain ⟨a, b, rfl⟩ := kkS_inv hu
  obtain ⟨c, d, rfl⟩ := kkS_inv hv
  have h : pairN (codZ a) (codZ b) = pairN (codZ c) (codZ d) := h
  obtain ⟨h1, h2⟩ := pairN_inj h
  rw [codZ_inj h1, codZ_inj h2]
theorem keyEq_self {kk : KK} {v : Value} (h : kk.has v = true) : keyEq v v = true := (keyEq_iff h h).2 rfl
def famI (W : Nat → List Int) (m : Nat) : Nat × (Nat → List AV) := ((W m).length, fun i => iC ((W m).getD i default))
def putW {α : Type} (W : Nat → List α) (c : Nat) (x : α) : Nat → List α := fun m => if m = c then W m ++ [x] else W m
theorem rowSn {α : Type} [Inhabited α] (f : α → List AV) (L : List α) (x : α) (g : Nat → List AV) (hx : g 0 = f x) : ∀ j, j < L.length + 1 → f ((L ++ [x]).getD j default) = catF L.length (fun i => f (L.getD i default)) g j := fun j hj => by
  unfold catF
  by_cases h1 : j < L.length
  · rw [blt_yes h1]; simp [List.getD, List.getElem?_append_left h1]
  · have : j = L.length := by omega
    subst this
    rw [blt_no (Nat.le_refl _), Nat.sub_self, cond_false, hx]
    simp [List.getD]
structure WdS where
  W : Nat → List Int
  d : Value → Bool
def wdPut (s : WdS) (x : Lt) : WdS := ⟨putW s.W (encS (slK x.party x.number)) x.sent, fun u => keyEq u (slK x.party x.number) || s.d u⟩
def wdT (n : Int) (l : List Lt) : Nat → WdS
  | 0 => ⟨fun _ => [], fun _ => false⟩
  | i + 1 => if ofB 3 n (l.getD i default) = true then wdPut (wdT n l i) (l.getD i default) else wdT n l i
theorem wdT_len (n : Int) (l : List Lt) : ∀ i m, ((wdT n l i).W m).length ≤ i
  | 0, _ => Nat.le_refl _
  | i + 1, m => by
    have ih := wdT_len n l i m
    rw [wdT]
    split
    · show (putW _ _ _ m).length ≤ _
      unfold putW
      split
      · simp; omega
      · omega
    · omega
def wdO (s : WdS) : Ob := .mapb kkS (.slice none 0 0) s.d (fun v => .rs 1 (s.W (encS v)).length (fun i => iC ((s.W (encS v)).getD i default)))
theorem withdrawals_ok (n : Int) (l : List Lt) (hl : ∀ x ∈ l, ltW x) (h4 : l.length ≤ 4000) : DoesM Tryz.prog 21 [.c (.int .i64 n), ltsV l] [] (.mp 0) [wdO (wdT n l l.length)] := by
  refine DoesM.mk (fun _ => false) 100 TT_ok Tryz.func21 rfl (by kernel_rfl) Tryz.ntmps21 rfl rfl rfl fun E hT hE hN hR => ?_
  have hm := mixO hE
  (repeat (first | refine XK.n ?_ | refine XK.a ?_ | refine XK.b ?_))
  (repeat (first | refine XK.n ?_ | refine XK.a ?_ | refine XK.b ?_)); refine XK.region ?_; refine XL.g ?_
  refine XL.callKA hE rfl rfl rfl rfl trivial rfl rfl (ofKind_ok 3 n) ?_
  refine XL.g ?_; refine XL.fin ?_; (repeat (first | refine XK.n ?_ | refine XK.a ?_ | refine XK.b ?_))
  refine XK.loop (ι := Nat) (fun i => ⟨mkFr [(5, .mp 148), (6, .fn (.func 81) [] [.rptr [.c (.int .i64 3)], .rptr [.c (.int .i64 n)]]), (13, ltsV l), (14, .c (.int .i64 l.length)), (15, .c (.int .i64 i))], obF 1000000 3 1 (famI (wdT n l i).W) ((148, mapF 1000000 kkS (wdT n l i).d encS) :: []), 1000, 38, (fun _ => false)⟩)
    (fun i => i ≤ l.length) (fun i => l.length - i) 0 (Nat.zero_le _)
    (Weak.trans (Weak.of (L := [(5, .mp 148), (6, .fn (.func 81) [] [.rptr [.c (.int .i64 3)], .rptr [.c (.int .i64 n)]]), (13, ltsV l), (14, .c (.int .i64 l.length)), (15, .c (.int .i64 (0 : Nat)))]) (O := [(148, .mapb kkS (.slice none 0 0) (fun _ => false) (fun _ => .c (.slice none 0 0)))]) (nx := 1000) (nt := 38) (md := fun _ => false) hN rfl rfl rfl frI frI)
      (Weak.famIn encS (famI fun _ => []) (fun m => rfl) hN rfl rfl (fun _ => rfl))) fun i hi => ?_
  (repeat (first | refine XK.n ?_ | refine XK.a ?_ | refine XK.b ?_)); refine XK.cond rfl (fun h1 => ?_) (fun h1 => ?_)
  · have h1 : i < l.length := by simpa using h1
    have fx : l.getD (i : Int).toNat default = l.getD i default := rfl
    have hx := hl _ (getD_memT (l := l) (i := i) h1)
    have hst : wdT n l (i + 1) = if ofB 3 n (l.getD i default) = true then wdPut (wdT n l i) (l.getD i default) else wdT n l i := rfl
    have hlen := wdT_len n l i
    (repeat (first | refine XK.n ?_ | refine XK.a ?_ | refine XK.b ?_))
    rw [fx]
    generalize l.getD i default = x at *
    generalize wdT n l i = s at *
    have ck := kind1_ok 3 n x hx
    (repeat (first | refine XK.n ?_ | refine XK.a ?_ | refine XK.b ?_)); refine XK.region ?_; refine XL.g ?_
    refine XL.callLA hE rfl rfl rfl rfl trivial rfl (ck) rfl ?_
    refine XL.g ?_; refine XL.fin ?_; (repeat (first | refine XK.n ?_ | refine XK.a ?_ | refine XK.b ?_))
    (repeat (first | refine XK.n ?_ | refine XK.a ?_ | refine XK.b ?_)); refine XK.cond rfl (fun h2 => ?_) (fun h2 => ?_)
    · rw [if_pos h2] at hst
      have hk0 : keyEq (slK x.party x.number) (slK x.party x.number) = true := keyEq_self (kk := kkS) rfl
      have hlv : (famI s.W (encS (slK x.party x.number))).1 ≤ i := hlen _
      (repeat (first | refine XK.n ?_ | refine XK.a ?_ | refine XK.b ?_))
      refine XK.weak (Weak.trans (Weak.famOf (B := 1000000) (k := 148) (e := 3) (sz := 1) (kk := kkS) (d := s.d) (enc := encS) (F := famI s.W) (L := [(5, .mp 148), (6, .fn (.func 81) [] [.rptr [.c (.int .i64 3)], .rptr [.c (.int .i64 n)]]), (13, ltsV l), (14, .c (.int .i64 l.length)), (15, .c (.int .i64 i)), (8, .ptr 1046 0), (9, .ptr 1123 0)]) (O := [(1046, .cells 60 (ltC x)), (1123, .cells 73 [.c (.int .i64 x.party), .c (.int .i64 x.number)])]) (nx := 2000) (md := fun _ => false) hN rfl rfl frI frI rfl (fun j hj => by (try dsimp only); (repeat (rw [upd_big hj rfl])); exact obF_ge hj))
        (Weak.famOpen 700 (slK x.party x.number) hN rfl rfl rfl rfl rfl rfl rfl rfl encS_inj)) ?_
      (repeat (first | refine XK.n ?_ | refine XK.a ?_ | refine XK.b ?_)); refine XK.region ?_; refine XL.g ?_
      refine XL.mapEntry (v := slK x.party x.number) (kk := kkS) (m := 148) hT rfl rfl rfl rfl rfl rfl rfl rfl rfl rfl rfl rfl rfl fun c => ?_
      rw [hk0, cond_true]
      refine XL.g ?_
      refine XL.entryStore (v := slK x.party x.number) (n := c) (m := 148) rfl rfl rfl rfl rfl rfl rfl rfl List.mem_cons_self ?_
      refine XL.fin ?_
      (repeat (first | refine XK.n ?_ | refine XK.a ?_ | refine XK.b ?_))
      refine XK.inv ⟨i + 1, h1, ?_, by omega⟩
      rw [hst]
      refine Weak.famClose 700 (slK x.party x.number) (famI (wdPut s x).W) hN rfl rfl frV frI rfl rfl (fun j hj => by (try dsimp only); (repeat (rw [upd_big hj rfl])); exact obQ_ge hj) (fun v _ => ?_) (fun _ _ => rfl) ?_ ?_ ?_ rfl encS_inj
      · show (bif keyEq v (slK x.party x.number) then AV.vec 700 1 else bif keyEq v (slK x.party x.number) then AV.vec 700 0 else AV.vec (1000000 + encS v) 0) = _
        cases keyEq v (slK x.party x.number) <;> rfl
      · simp [famI, wdPut, putW]
      · have := rowSn iC (s.W (encS (slK x.party x.number))) x.sent (rowOf [AV.c (.int .i64 x.sent)] ty3.size) rfl
        simpa [famI, wdPut, putW] using this
      · intro j hj
        simp [famI, wdPut, putW, hj]
    · have h2 : ¬ ofB 3 n x = true := by rw [h2]; simp
      rw [if_neg h2] at hst
      (repeat (first | refine XK.n ?_ | refine XK.a ?_ | refine XK.b ?_))
      refine XK.inv ⟨i + 1, h1, ?_, by omega⟩
      rw [hst]
      exact Weak.famOf hN rfl rfl frV frI rfl (fun j hj => by (try dsimp only); (repeat (rw [upd_big hj rfl])); exact obF_ge hj)
  · have hie : i = l.length := by
      have : ¬ i < l.length := by simpa using h1
      omega
    subst hie
    (repeat (first | refine XK.n ?_ | refine XK.a ?_ | refine XK.b ?_))
    refine XK.weak (Weak.trans (Weak.famOf (B := 1000000) (k := 148) (e := 3) (sz := 1) (kk := kkS) (d := (wdT n l l.length).d) (enc := encS) (F := famI (wdT n l l.length).W) (L := [(4, .mp 148)]) (O := []) (nx := 2000) (md := fun _ => false) hN rfl rfl frI frI rfl (fun j hj => by (try dsimp only); (repeat (rw [upd_big hj rfl])); exact obF_ge hj)) (Weak.famOut hN rfl rfl)) ?_
    (first | refine XK.outR [148] hN rfl rfl rfl ?_ rfl rfl ?_ | refine XK.outRN [148] hN rfl rfl rfl ?_ rfl rfl ?_)
    · exact frI
    · exact frI
end
section
open Go.Eng Go.RowKit Go.Lib Go.Sort
def psV (G : List Px) : AV := rowL pxC 27 G
theorem validNo_ok (p : Px) (G : List Px) (w : List Int) (hk : p.known < 0) : Does Tryz.prog 22 [pxV p, psV G, intsV w] (.c (.bool false)) := by
  refine Does.mk (fun _ => false) TT_ok Tryz.func22 rfl (by kernel_rfl) Tryz.ntmps22 rfl rfl fun E hT hE hN hR => ?_
  have hm := mixO hE
  (repeat (first | refine XK.n ?_ | refine XK.a ?_ | refine XK.b ?_)); refine XK.cond rfl (fun h1 => ?_) (fun h1 => ?_) <;> (try simp at h1)
  · (repeat (first | refine XK.n ?_ | refine XK.a ?_ | refine XK.b ?_))
    (first | refine XK.o ?_ | refine XK.p ?_)
    rfl
  · omega
theorem valid1_ok (o p : Px) (h : o.sum = p.sum) : Does Tryz.prog 49 [pxV o, .rptr (pxC p)] (.c (.bool false)) := by
  refine Does.mk (fun _ => false) TT_ok Tryz.func49 rfl (by kernel_rfl) Tryz.ntmps49 rfl rfl fun E hT hE hN hR => ?_
  have hm := mixO hE
  (repeat (first | refine XK.n ?_ | refine XK.a ?_ | refine XK.b ?_))
  (first | refine XK.o ?_ | refine XK.p ?_)
  rw [h, (Go.MapKept.bytes_beq p.sum p.sum).2 rfl]
  rfl
theorem indexP_ok (G : List Px) (p : Px) (hG : ∀ i, i < G.length → (G.getD i default).sum = p.sum) (hl : G.length ≤ 1000000) : Does Tryz.prog 89 [psV G, .fn (.func 49) [] [.rptr (pxC p)]] (.c (.int .i64 (-1))) := by
  refine Does.mk (fun _ => false) TT_ok Tryz.func89 rfl (by kernel_rfl) Tryz.ntmps89 rfl rfl fun E hT hE hN hR => ?_
  have hm := mixO hE
  (repeat (first | refine XK.n ?_ | refine XK.a ?_ | refine XK.b ?_))
  refine XK.loop (ι := Nat) (fun i => ST.of [(0, psV G), (1, .fn (.func 49) [] [.rptr (pxC p)]), (7, .c (.int .i64 G.length)), (8, .c (.int .i64 i))] [] 1000 19 (fun _ => false))
    (fun i => i ≤ G.length) (fun i => G.length - i) 0 (Nat.zero_le _) (Weak.of hN rfl rfl rfl frI frI) fun i hi => ?_
  (repeat (first | refine XK.n ?_ | refine XK.a ?_ | refine XK.b ?_)); refine XK.cond rfl (fun hlt => ?_) (fun hlt => ?_) <;> (try simp at hlt)
  · have fx : G.getD (i : Int).toNat default = G.getD i default := rfl
    have hw := valid1_ok (G.getD i default) p (hG i hlt)
    (repeat (first | refine XK.n ?_ | refine XK.a ?_ | refine XK.b ?_))
    (repeat (first | refine XK.n ?_ | refine XK.a ?_ | refine XK.b ?_)); refine XK.region ?_; refine XL.g ?_
    rw [fx]
    refine XL.callLA hE rfl rfl rfl rfl trivial rfl (hw) rfl ?_
    refine XL.g ?_; refine XL.fin ?_; (repeat (first | refine XK.n ?_ | refine XK.a ?_ | refine XK.b ?_))
    (repeat (first | refine XK.n ?_ | refine XK.a ?_ | refine XK.b ?_)); refine XK.cond rfl (fun h1 => ?_) (fun h1 => ?_)
    · cases h1
    · (repeat (first | refine XK.n ?_ | refine XK.a ?_ | refine XK.b ?_))
      exact XK.inv ⟨i + 1, hlt, (Weak.of hN rfl rfl rfl frI frI), by omega⟩
  · (repeat (first | refine XK.n ?_ | refine XK.a ?_ | refine XK.b ?_))
    (first | refine XK.o ?_ | refine XK.p ?_)
    rfl
theorem containsP_ok (G : List Px) (p : Px) (hG : ∀ i, i < G.length → (G.getD i default).sum = p.sum) (hl : G.length ≤ 1000000) : Does Tryz.prog 51 [psV G, .fn (.func 49) [] [.rptr (pxC p)]] (.c (.bool false)) := by
  have hc := indexP_ok G p hG hl
  refine Does.mk (fun _ => false) TT_ok Tryz.func51 rfl (by kernel_rfl) Tryz.ntmps51 rfl rfl fun E hT hE hN hR => ?_
  have hm := mixO hE
  (repeat (first | refine XK.n ?_ | refine XK.a ?_ | refine XK.b ?_))
  (repeat (first | refine XK.n ?_ | refine XK.a ?_ | refine XK.b ?_)); refine XK.region ?_; refine XL.g ?_
  refine XL.callLA hE rfl rfl rfl rfl trivial rfl (hc) rfl ?_
  refine XL.g ?_; refine XL.fin ?_; (repeat (first | refine XK.n ?_ | refine XK.a ?_ | refine XK.b ?_))
  (first | refine XK.o ?_ | refine XK.p ?_)
  rfl
theorem indexI_ok (p : Px) : Does Tryz.prog 90 [intsV [], .fn (.func 50) [] [.rptr (pxC p)]] (.c (.int .i64 (-1))) := by
  refine Does.mk (fun _ => false) TT_ok Tryz.func90 rfl (by kernel_rfl) Tryz.ntmps90 rfl rfl fun E hT hE hN hR => ?_
  have hm := mixO hE
  (repeat (first | refine XK.n ?_ | refine XK.a ?_ | refine XK.b ?_))
  refine XK.loop (ι := Unit) (fun _ => ST.of [(7, .c (.int .i64 0)), (8, .c (.int .i64 0))] [] 1000 19 (fun _ => false)) (fun _ => True) (fun _ => 0) () trivial (Weak.of hN rfl rfl rfl frI frI) fun _ _ => ?_
  (repeat (first | refine XK.n ?_ | refine XK.a ?_ | refine XK.b ?_)); refine XK.cond rfl (fun hlt => ?_) (fun hlt => ?_)
  · cases hlt
  · (repeat (first | refine XK.n ?_ | refine XK.a ?_ | refine XK.b ?_))
    (first | refine XK.o ?_ | refine XK.p ?_)
    rfl
theorem containsI_ok (p : Px) : Does Tryz.prog 52 [intsV [], .fn (.func 50) [] [.rptr (pxC p)]] (.c (.bool false)) := by
  have hc := indexI_ok p
  refine Does.mk (fun _ => false) TT_ok Tryz.func52 rfl (by kernel_rfl) Tryz.ntmps52 rfl rfl fun E hT hE hN hR => ?_
  have hm := mixO hE
  (repeat (first | refine XK.n ?_ | refine XK.a ?_ | refine XK.b ?_))
  (repeat (first | refine XK.n ?_ | refine XK.a ?_ | refine XK.b ?_)); refine XK.region ?_; refine XL.g ?_
  refine XL.callLA hE rfl rfl rfl rfl trivial rfl (hc) rfl ?_
  refine XL.g ?_; refine XL.fin ?_; (repeat (first | refine XK.n ?_ | refine XK.a ?_ | refine XK.b ?_))
  (first | refine XK.o ?_ | refine XK.p ?_)
  rfl
theorem validYes_ok (p : Px) (G : List Px) (hG : ∀ i, i < G.length → (G.getD i default).sum = p.sum) (hl : G.length ≤ 1000000) (hk : 0 ≤ p.known) : Does Tryz.prog 22 [pxV p, psV G, intsV []] (.c (.bool true)) := by
  have h1 := containsP_ok G p hG hl
  have h2 := containsI_ok p
  refine Does.mk (fun _ => false) TT_ok Tryz.func22 rfl (by kernel_rfl) Tryz.ntmps22 rfl rfl fun E hT hE hN hR => ?_
  have hm := mixO hE
  (repeat (first | refine XK.n ?_ | refine XK.a ?_ | refine XK.b ?_)); refine XK.cond rfl (fun h3 => ?_) (fun h3 => ?_) <;> (try simp at h3)
  · omega
  (repeat (first | refine XK.n ?_ | refine XK.a ?_ | refine XK.b ?_))
  (repeat (first | refine XK.n ?_ | refine XK.a ?_ | refine XK.b ?_)); refine XK.region ?_; refine XL.g ?_
  refine XL.callLA hE rfl rfl rfl rfl trivial rfl (h1) rfl ?_
  refine XL.g ?_
  refine XL.callLG hE rfl rfl rfl rfl rfl rfl rfl (by first | (simp [AllP, impG]; done) | (simp only [AllP, impG]; grind)) rfl (fun hgd => ⟨h2, (by (repeat' (first | exact rfl | exact AvIs.refl _ | exact trivial | (intro i hi; rfl) | exact fun _ _ => ⟨rfl, AvIs.refl _⟩ | (intro i hi; rcases i with _ | _ | _ | _ | _ | _ | _ | i <;> first | rfl | exact absurd hi (by simp; done) | (simp at hi; omega)) | refine ⟨?_, ?_⟩)))⟩) rfl ?_
  refine XL.g ?_; refine XL.fin ?_; (repeat (first | refine XK.n ?_ | refine XK.a ?_ | refine XK.b ?_))
  (first | refine XK.o ?_ | refine XK.p ?_)
  rfl
def zPxC : List AV := [.c (.int .i64 0), .c (.int .i64 0), .c (.int .i64 0), .c (.int .i64 0), .c (.int .i64 0), .c (.int .i64 0), .c (.slice none 0 0), .c (.int .i64 0), .c (.int .i64 0), .c (.int .i64 0), .c (.int .i64 0), .c (.slice none 0 0), .c (.int .i64 0), .c (.int .i64 0), .c (.bool false), .c (.bool false), .c (.int .i64 0), .c (.int .i64 0), .c (.int .i64 0), .c (.int .i64 0), .c (.int .i64 0), .c (.int .i64 0), .c (.bool false), .c (.int .i64 0), .c (.string { data := #[] }), .c (.string { data := #[] }), .c (.int .i64 0)]
theorem first1_ok (p : Px) : Does Tryz.prog 23 [psV [p]] (.tup [pxV p, .c (.bool true)]) := by
  refine Does.mk (fun _ => false) TT_ok Tryz.func23 rfl (by kernel_rfl) Tryz.ntmps23 rfl rfl fun E hT hE hN hR => ?_
  have hm := mixO hE
  (repeat (first | refine XK.n ?_ | refine XK.a ?_ | refine XK.b ?_))
  refine XK.loop (ι := Bool) (fun b => match b with
      | false => ST.of [(2, .ptr 2 0), (4, .ptr 42 0), (5, .c (.bool false)), (9, psV [p]), (10, .c (.int .i64 1)), (11, .c (.int .i64 0))] [(2, .cells 70 zPxC), (42, .cells 70 zPxC)] 1000 38 (fun _ => false)
      | true => ST.of [(2, .ptr 2 0), (4, .ptr 42 0), (5, .c (.bool true)), (9, psV [p]), (10, .c (.int .i64 1)), (11, .c (.int .i64 1))] [(2, .cells 70 zPxC), (42, .cells 70 (pxC p))] 1000 38 (fun _ => false))
    (fun _ => True) (fun b => match b with | false => 1 | true => 0) false trivial (Weak.of hN rfl rfl rfl frI frI) fun b _ => ?_
  cases b with
  | false =>
    dsimp only
    (repeat (first | refine XK.n ?_ | refine XK.a ?_ | refine XK.b ?_)); refine XK.cond rfl (fun h1 => ?_) (fun h1 => ?_)
    · (repeat (first | refine XK.n ?_ | refine XK.a ?_ | refine XK.b ?_))
      (repeat (first | refine XK.n ?_ | refine XK.a ?_ | refine XK.b ?_)); refine XK.cond rfl (fun h2 => ?_) (fun h2 => ?_)
      · (repeat (first | refine XK.n ?_ | refine XK.a ?_ | refine XK.b ?_))
        exact XK.inv ⟨true, trivial, (Weak.of hN rfl rfl rfl frI frI), by decide⟩
      · cases h2
    · cases h1
  | true =>
    dsimp only
    (repeat (first | refine XK.n ?_ | refine XK.a ?_ | refine XK.b ?_)); refine XK.cond rfl (fun h1 => ?_) (fun h1 => ?_)
    · cases h1
    · (repeat (first | refine XK.n ?_ | refine XK.a ?_ | refine XK.b ?_))
      (repeat (first | refine XK.n ?_ | refine XK.a ?_ | refine XK.b ?_)); refine XK.cond rfl (fun h2 => ?_) (fun h2 => ?_)
      · cases h2
      · (repeat (first | refine XK.n ?_ | refine XK.a ?_ | refine XK.b ?_))
        (first | refine XK.o ?_ | refine XK.p ?_)
        rfl
def pxAm (p : Px) : Am := ⟨p.l.number, p.l.day, p.known, p.l.patch⟩
theorem amendment_ok (p : Px) (h1 : p.l.patch.clauses.length ≤ 1000000) (h2 : p.l.patch.new.start.length ≤ 1000000) : Does Tryz.prog 24 [pxV p] (amV (pxAm p)) := by
  have c1 := cln_ints p.l.patch.clauses h1
  have c2 := cln_cnds p.l.patch.new.start h2
  refine Does.mk (fun _ => false) TT_ok Tryz.func24 rfl (by kernel_rfl) Tryz.ntmps24 rfl rfl fun E hT hE hN hR => ?_
  have hm := mixO hE
  (repeat (first | refine XK.n ?_ | refine XK.a ?_ | refine XK.b ?_))
  (repeat (first | refine XK.n ?_ | refine XK.a ?_ | refine XK.b ?_)); refine XK.region ?_; refine XL.g ?_
  refine XL.callKA hE rfl rfl rfl rfl trivial rfl rfl (c1) ?_
  refine XL.g ?_; refine XL.fin ?_; (repeat (first | refine XK.n ?_ | refine XK.a ?_ | refine XK.b ?_))
  (repeat (first | refine XK.n ?_ | refine XK.a ?_ | refine XK.b ?_)); refine XK.region ?_; refine XL.g ?_
  refine XL.callKA hE rfl rfl rfl rfl trivial rfl rfl (c2) ?_
  refine XL.g ?_; refine XL.fin ?_; (repeat (first | refine XK.n ?_ | refine XK.a ?_ | refine XK.b ?_))
  (first | refine XK.o ?_ | refine XK.p ?_)
  rfl
end
section
open Go.Eng Go.RowKit Go.Lib Go.Sort
theorem bitsLen_ok (n : Nat) (h : n ≤ 1000000) : Does Tryz.prog 55 [.c (.int .u64 n)] (.c (.int .i64 (Lib.bitLen n))) :=
  Does.of_gl (args := [.int .u64 n]) ⟨_, Tryz.func55, rfl, by kernel_rfl⟩ fun w G hgl => (Tryz.bits_Len n w (by omega) (by omega)).mono fun e w' ⟨h, hw⟩ => ⟨h, hw ▸ Keep.refl _ _⟩
theorem insP_ok (n : Nat) (hn : n ≤ 1) (f : Nat → List AV) (g : Nat) : DoesM Tryz.prog 136 [.vec 0 0, .c (.int .i64 0), .c (.int .i64 n), .fn (.func g) [] []] [.vec 150 23 0 n f] (.tup []) [.vec 150 23 0 n f] := by
  refine DoesM.mk (fun _ => false) 100 TT_ok Tryz.func136 rfl (by kernel_rfl) Tryz.ntmps136 rfl rfl rfl fun E hT hE hN hR => ?_
  have hm := mixO hE
  (repeat (first | refine XK.n ?_ | refine XK.a ?_ | refine XK.b ?_))
  refine XK.loop (ι := Unit) (fun _ => ST.of [(2, .c (.int .i64 n)), (8, .c (.int .i64 1))] [(0, .vec 150 23 0 n f)] 1000 53 (fun _ => false)) (fun _ => True) (fun _ => 0) () trivial (Weak.of hN rfl rfl rfl frI frI) fun _ _ => ?_
  (repeat (first | refine XK.n ?_ | refine XK.a ?_ | refine XK.b ?_)); refine XK.cond rfl (fun h1 => ?_) (fun h1 => ?_) <;> (try simp at h1)
  · omega
  · (repeat (first | refine XK.n ?_ | refine XK.a ?_ | refine XK.b ?_))
    (first | refine XK.outR [0] hN rfl rfl rfl ?_ rfl rfl ?_ | refine XK.outRN [0] hN rfl rfl rfl ?_ rfl rfl ?_)
    · exact frI
    · exact frI
theorem pdqP_ok (n : Nat) (hn : n ≤ 1) (f : Nat → List AV) (g : Nat) (z : Int) : DoesM Tryz.prog 106 [.vec 0 0, .c (.int .i64 0), .c (.int .i64 n), .c (.int .i64 z), .fn (.func g) [] []] [.vec 150 23 0 n f] (.tup []) [.vec 150 23 0 n f] := by
  have hc := insP_ok n hn f g
  refine DoesM.mk (fun _ => false) 100 TT_ok Tryz.func106 rfl (by kernel_rfl) Tryz.ntmps106 rfl rfl rfl fun E hT hE hN hR => ?_
  have hm := mixO hE
  (repeat (first | refine XK.n ?_ | refine XK.a ?_ | refine XK.b ?_))
  refine XK.loop (ι := Unit) (fun _ => ST.of [(0, .vec 0 0), (1, .c (.int .i64 0)), (2, .c (.int .i64 n)), (3, .c (.int .i64 z)), (4, .fn (.func g) [] [])] [(0, .vec 150 23 0 n f)] 1000 148 (fun _ => false)) (fun _ => True) (fun _ => 0) () trivial (Weak.of hN rfl rfl rfl frI frI) fun _ _ => ?_
  (repeat (first | refine XK.n ?_ | refine XK.a ?_ | refine XK.b ?_)); refine XK.cond rfl (fun h1 => ?_) (fun h1 => ?_) <;> (try simp at h1)
  · (repeat (first | refine XK.n ?_ | refine XK.a ?_ | refine XK.b ?_)); refine XK.region ?_; refine XL.g ?_
    refine XL.callMA [0] hE rfl rfl rfl rfl trivial (hc) rfl rfl rfl rfl rfl ?_
    refine XL.g ?_; refine XL.fin ?_; (repeat (first | refine XK.n ?_ | refine XK.a ?_ | refine XK.b ?_))
    (first | refine XK.outR [0] hN rfl rfl rfl ?_ rfl rfl ?_ | refine XK.outRN [0] hN rfl rfl rfl ?_ rfl rfl ?_)
    · exact frI
    · exact frI
  · omega
theorem sortP1_ok (n : Nat) (hn : n ≤ 1) (f f' : Nat → List AV) (hf : ∀ i, i < n → f' i = f i) (g : Nat) : DoesM Tryz.prog 63 [.vec 0 0, .fn (.func g) [] []] [.vec 150 23 0 n f] (.tup []) [.vec 150 23 0 n f'] := by
  have hc := pdqP_ok n hn f g (Lib.bitLen n)
  refine DoesM.mk (fun _ => false) 100 TT_ok Tryz.func63 rfl (by kernel_rfl) Tryz.ntmps63 rfl rfl rfl fun E hT hE hN hR => ?_
  have hm := mixO hE
  (repeat (first | refine XK.n ?_ | refine XK.a ?_ | refine XK.b ?_))
  (repeat (first | refine XK.n ?_ | refine XK.a ?_ | refine XK.b ?_)); refine XK.region ?_; refine XL.g ?_
  refine XL.callLA hE rfl rfl rfl rfl trivial rfl (bitsLen_ok n (by omega)) rfl ?_
  refine XL.g ?_
  refine XL.callMA [0] hE rfl rfl rfl rfl trivial (hc) rfl rfl rfl rfl rfl ?_
  refine XL.g ?_; refine XL.fin ?_; (repeat (first | refine XK.n ?_ | refine XK.a ?_ | refine XK.b ?_))
  (first | refine XK.outR [0] hN rfl rfl rfl ?_ rfl rfl ?_ | refine XK.outRN [0] hN rfl rfl rfl ?_ rfl rfl ?_)
  · (repeat' (first | exact rfl | exact AvIs.refl _ | exact trivial | exact fun _ _ => rfl | exact fun _ _ => ⟨rfl, AvIs.refl _⟩ | exact cI (by omega) | exact (hf) | refine ⟨?_, ?_⟩))
  · exact frI
theorem insM_ok (n : Nat) (hn : n ≤ 1) (f : Nat → List AV) (g : Nat) : DoesM Tryz.prog 91 [.vec 0 0, .c (.int .i64 0), .c (.int .i64 n), .fn (.func g) [] []] [.vec 82 22 0 n f] (.tup []) [.vec 82 22 0 n f] := by
  refine DoesM.mk (fun _ => false) 100 TT_ok Tryz.func91 rfl (by kernel_rfl) Tryz.ntmps91 rfl rfl rfl fun E hT hE hN hR => ?_
  have hm := mixO hE
  (repeat (first | refine XK.n ?_ | refine XK.a ?_ | refine XK.b ?_))
  refine XK.loop (ι := Unit) (fun _ => ST.of [(2, .c (.int .i64 n)), (8, .c (.int .i64 1))] [(0, .vec 82 22 0 n f)] 1000 53 (fun _ => false)) (fun _ => True) (fun _ => 0) () trivial (Weak.of hN rfl rfl rfl frI frI) fun _ _ => ?_
  (repeat (first | refine XK.n ?_ | refine XK.a ?_ | refine XK.b ?_)); refine XK.cond rfl (fun h1 => ?_) (fun h1 => ?_) <;> (try simp at h1)
  · omega
  · (repeat (first | refine XK.n ?_ | refine XK.a ?_ | refine XK.b ?_))
    (first | refine XK.outR [0] hN rfl rfl rfl ?_ rfl rfl ?_ | refine XK.outRN [0] hN rfl rfl rfl ?_ rfl rfl ?_)
    · exact frI
    · exact frI
theorem pdqM_ok (n : Nat) (hn : n ≤ 1) (f : Nat → List AV) (g : Nat) (z : Int) : DoesM Tryz.prog 54 [.vec 0 0, .c (.int .i64 0), .c (.int .i64 n), .c (.int .i64 z), .fn (.func g) [] []] [.vec 82 22 0 n f] (.tup []) [.vec 82 22 0 n f] := by
  have hc := insM_ok n hn f g
  refine DoesM.mk (fun _ => false) 100 TT_ok Tryz.func54 rfl (by kernel_rfl) Tryz.ntmps54 rfl rfl rfl fun E hT hE hN hR => ?_
  have hm := mixO hE
  (repeat (first | refine XK.n ?_ | refine XK.a ?_ | refine XK.b ?_))
  refine XK.loop (ι := Unit) (fun _ => ST.of [(0, .vec 0 0), (1, .c (.int .i64 0)), (2, .c (.int .i64 n)), (3, .c (.int .i64 z)), (4, .fn (.func g) [] [])] [(0, .vec 82 22 0 n f)] 1000 148 (fun _ => false)) (fun _ => True) (fun _ => 0) () trivial (Weak.of hN rfl rfl rfl frI frI) fun _ _ => ?_
  (repeat (first | refine XK.n ?_ | refine XK.a ?_ | refine XK.b ?_)); refine XK.cond rfl (fun h1 => ?_) (fun h1 => ?_) <;> (try simp at h1)
  · (repeat (first | refine XK.n ?_ | refine XK.a ?_ | refine XK.b ?_)); refine XK.region ?_; refine XL.g ?_
    refine XL.callMA [0] hE rfl rfl rfl rfl trivial (hc) rfl rfl rfl rfl rfl ?_
    refine XL.g ?_; refine XL.fin ?_; (repeat (first | refine XK.n ?_ | refine XK.a ?_ | refine XK.b ?_))
    (first | refine XK.outR [0] hN rfl rfl rfl ?_ rfl rfl ?_ | refine XK.outRN [0] hN rfl rfl rfl ?_ rfl rfl ?_)
    · exact frI
    · exact frI
  · omega
theorem sortM1_ok (n : Nat) (hn : n ≤ 1) (f f' : Nat → List AV) (hf : ∀ i, i < n → f' i = f i) (g : Nat) : DoesM Tryz.prog 25 [.vec 0 0, .fn (.func g) [] []] [.vec 82 22 0 n f] (.tup []) [.vec 82 22 0 n f'] := by
  have hc := pdqM_ok n hn f g (Lib.bitLen n)
  refine DoesM.mk (fun _ => false) 100 TT_ok Tryz.func25 rfl (by kernel_rfl) Tryz.ntmps25 rfl rfl rfl fun E hT hE hN hR => ?_
  have hm := mixO hE
  (repeat (first | refine XK.n ?_ | refine XK.a ?_ | refine XK.b ?_))
  (repeat (first | refine XK.n ?_ | refine XK.a ?_ | refine XK.b ?_)); refine XK.region ?_; refine XL.g ?_
  refine XL.callLA hE rfl rfl rfl rfl trivial rfl (bitsLen_ok n (by omega)) rfl ?_
  refine XL.g ?_
  refine XL.callMA [0] hE rfl rfl rfl rfl trivial (hc) rfl rfl rfl rfl rfl ?_
  refine XL.g ?_; refine XL.fin ?_; (repeat (first | refine XK.n ?_ | refine XK.a ?_ | refine XK.b ?_))
  (first | refine XK.outR [0] hN rfl rfl rfl ?_ rfl rfl ?_ | refine XK.outRN [0] hN rfl rfl rfl ?_ rfl rfl ?_)
  · (repeat' (first | exact rfl | exact AvIs.refl _ | exact trivial | exact fun _ _ => rfl | exact fun _ _ => ⟨rfl, AvIs.refl _⟩ | exact cI (by omega) | exact (hf) | refine ⟨?_, ?_⟩))
  · exact frI
end
end Go.Proofs.YtlcfoelfcnhenaaGreatDoor
