import Derived.Test.YtlcfoelfcnhenaaGreatDoorZz14
import Derived.Test.YtlcfoelfcnhenaaGreatDoorZz24
set_option linter.unusedSimpArgs false
set_option linter.unusedVariables false
set_option maxRecDepth 10000
namespace Go.Proofs.YtlcfoelfcnhenaaGreatDoor
section
open Go.Eng Go.RowKit Go.Lib Go.Sort
def bO (s : Nat) (L : List UInt8) : Ob := .vec 5 1 s L.length (fun i => byC (L.getD i 0))
theorem wrE (L : List UInt8) (z : Int) (g : Nat → List AV) (h : g 0 = byC 32) : ∀ i, i < (L ++ 32 :: Lib.itoa z).length → byC ((L ++ 32 :: Lib.itoa z).getD i 0) = catF (L.length + 1) (catF L.length (fun i => byC (L.getD i 0)) g) (itoaF z) i := by
  intro i hi
  unfold catF itoaF
  rcases Nat.lt_trichotomy i L.length with h1 | h1 | h1
  · rw [blt_yes (show i < L.length + 1 by omega), blt_yes h1]
    simp [List.getD, List.getElem?_append_left h1]
  · subst h1
    rw [blt_yes (Nat.lt_succ_self _), blt_no (Nat.le_refl _), Nat.sub_self, cond_true, cond_false, h]
    simp [List.getD]
  · rw [blt_no (show L.length + 1 ≤ i by omega), cond_false]
    obtain ⟨k, rfl⟩ : ∃ k, i = L.length + 1 + k := ⟨i - (L.length + 1), by omega⟩
    rw [show L.length + 1 + k - (L.length + 1) = k by omega]
    simp [List.getD, List.getElem?_append_right (show L.length ≤ L.length + 1 + k by omega), show L.length + 1 + k - L.length = k + 1 by omega]
theorem write_ok (z : Int) (h0 : -9223372036854775808 ≤ z) (h1 : z ≤ 9223372036854775807) (L : List UInt8) (hL : L.length ≤ 900000) :
    DoesM Tryz.prog 86 [.c (.int .i64 z), .ptr 0 0] [.cells 172 [.vec 1 0], bO 0 L] (.tup []) [.cells 172 [.vec 1 2], bO 2 (L ++ 32 :: Lib.itoa z)] := by
  have hc := fun f => appendInt_ok z h0 h1 (L.length + 1) (by omega) f
  have hlen : (L ++ 32 :: Lib.itoa z).length = L.length + 1 + (Lib.itoa z).length := by simp; omega
  refine DoesM.mk (fun _ => false) 100 TT_ok Tryz.func86 rfl (by kernel_rfl) Tryz.ntmps86 rfl rfl rfl fun E hT hE hN hR => ?_
  have hm := mixO hE
  unfold bO
  refine XK.weak (Weak.steal 700 (k := 1) (s := 0) (f' := fun _ => []) hN rfl rfl rfl) ?_
  (repeat (first | refine XK.n ?_ | refine XK.a ?_ | refine XK.b ?_)); refine XK.region ?_; refine XL.g ?_
  refine XL.weak (Weak.stamp (k := 700) (t := 0) hN rfl rfl) ?_
  refine XL.callMA [700] hE rfl rfl rfl rfl trivial (hc _) rfl rfl rfl rfl rfl ?_
  refine XL.g ?_
  refine XL.weak (Weak.give (k := 1) (q := 700) 2 hN rfl rfl rfl rfl (by decide)) ?_
  refine XL.fin ?_
  rw [hlen]
  (first | refine XK.outR [0, 1] hN rfl rfl rfl ?_ rfl rfl ?_ | refine XK.outRN [0, 1] hN rfl rfl rfl ?_ rfl rfl ?_)
  · (repeat' (first | exact rfl | exact AvIs.refl _ | exact trivial | exact fun _ _ => rfl | exact fun _ _ => ⟨rfl, AvIs.refl _⟩ | exact cI (by omega) | exact (fun i hi => wrE L z _ rfl i (by rw [hlen]; exact hi)) | refine ⟨?_, ?_⟩))
  · exact frI
theorem ksB : ∀ L : List UInt8, AV.ksL (fun _ => false) (L.map fun b => AV.c (.int .u8 b.toNat)) = true
  | [] => rfl
  | _ :: L => ksB L
theorem wrE1 (L : List UInt8) (z : Int) (hl : L.length = 5) (g : Nat → List AV) (h : g 0 = byC 32) : ∀ i, i < 5 + 1 + (Lib.itoa z).length → byC ((L ++ 32 :: Lib.itoa z).getD i 0) = catF (5 + 1) (catF 5 (fun i => [(L.map fun b => AV.c (.int .u8 b.toNat)).getD i .junk]) g) (itoaF z) i := by
  intro i hi
  have h1 := wrE L z g h i (by simp; omega)
  rw [h1, hl]
  unfold catF
  by_cases h6 : i < 5 + 1
  · rw [blt_yes h6]
    by_cases h5 : i < 5
    · rw [blt_yes h5]
      have h5' : i < L.length := by omega
      simp [List.getD, h5', byC]
    · rw [blt_no (by omega)]; rfl
  · rw [blt_no (by omega)]; rfl
theorem mapB (g : AV → AV) : ∀ L : List UInt8, AV.mapL g (L.map fun b => AV.c (.int .u8 b.toNat)) = L.map fun b => AV.c (.int .u8 b.toNat)
  | [] => rfl
  | _ :: L => by
    rw [List.map_cons, AV.mapL, mapB g L]; rfl
theorem mapB2 (g h : AV → AV) (L : List UInt8) : AV.mapL g (AV.mapL h (L.map fun b => AV.c (.int .u8 b.toNat))) = L.map fun b => AV.c (.int .u8 b.toNat) := by rw [mapB, mapB]
theorem write1_ok (g : Nat) (z : Int) (h0 : -9223372036854775808 ≤ z) (h1 : z ≤ 9223372036854775807) (L : List UInt8) (hl : L.length = 5) :
    DoesM Tryz.prog 86 [.c (.int .i64 z), .ptr 0 0] [.cells 172 [.c (.slice (some ⟨g, 0, none⟩) 5 5)], .lrec (litMk 5 5) g (L.map fun b => .c (.int .u8 b.toNat))] (.tup [])
      [.cells 172 [.vec 2 0], .lrec (litMk 5 5) g (L.map fun b => .c (.int .u8 b.toNat)), bO 0 (L ++ 32 :: Lib.itoa z)] := by
  have hc := fun f => appendInt_ok z h0 h1 (5 + 1) (by omega) f
  have hlen : (L ++ 32 :: Lib.itoa z).length = 5 + 1 + (Lib.itoa z).length := by simp; omega
  refine DoesM.mk (fun _ => false) 100 TT_ok Tryz.func86 rfl (by kernel_rfl) Tryz.ntmps86 rfl rfl rfl fun E hT hE hN hR => ?_
  have hm := mixO hE
  unfold bO
  (repeat (first | refine XK.n ?_ | refine XK.a ?_ | refine XK.b ?_)); refine XK.region ?_; refine XL.g ?_
  refine XL.appendFull (q := 1) (m := 1) hT rfl rfl rfl rfl byteTy rfl rfl rfl (by rw [List.length_map, hl]) (ksB L) (by decide) (by decide) rfl ?_
  refine XL.g ?_
  refine XL.callMA [105] hE rfl rfl rfl rfl trivial (hc _) rfl rfl rfl rfl rfl ?_
  refine XL.g ?_
  refine XL.weak (Weak.stamp (k := 105) (t := 0) hN rfl rfl) ?_
  refine XL.fin ?_
  rw [hlen]
  (first | refine XK.outR [0, 1, 105] hN rfl rfl rfl ?_ rfl rfl ?_ | refine XK.outRN [0, 1, 105] hN rfl rfl rfl ?_ rfl rfl ?_)
  · (try (repeat' (first | exact rfl | exact AvIs.refl _ | exact trivial | exact fun _ _ => rfl | exact fun _ _ => ⟨rfl, AvIs.refl _⟩ | exact cI (by omega) | exact (fun i hi => wrE1 L z hl _ rfl i hi) | refine ⟨?_, ?_⟩)))
    exact mapB2 _ _ L
  · exact frI
theorem flagT_ok (L : List UInt8) (hL : L.length ≤ 900000) :
    DoesM Tryz.prog 88 [.c (.bool true), .ptr 0 0] [.cells 111 [.fn (.func 86) [] [.ptr 1 0]], .cells 172 [.vec 2 0], bO 0 L] (.tup [])
      [.cells 111 [.fn (.func 86) [] [.ptr 1 0]], .cells 172 [.vec 2 2], bO 2 (L ++ 32 :: Lib.itoa 1)] := by
  have c1 := write_ok 1 (by omega) (by omega) L hL
  refine DoesM.mk (fun _ => false) 100 TT_ok Tryz.func88 rfl (by kernel_rfl) Tryz.ntmps88 rfl rfl rfl fun E hT hE hN hR => ?_
  have hm := mixO hE
  (repeat (first | refine XK.n ?_ | refine XK.a ?_ | refine XK.b ?_)); refine XK.cond rfl (fun h1 => ?_) (fun h1 => ?_) <;> (try simp at h1)
  (repeat (first | refine XK.n ?_ | refine XK.a ?_ | refine XK.b ?_)); refine XK.region ?_; refine XL.g ?_
  refine XL.callMA [1, 2] hE rfl rfl rfl rfl trivial (c1) rfl rfl rfl rfl rfl ?_
  refine XL.g ?_; refine XL.fin ?_; (repeat (first | refine XK.n ?_ | refine XK.a ?_ | refine XK.b ?_))
  (first | refine XK.outR [0, 1, 2] hN rfl rfl rfl ?_ rfl rfl ?_ | refine XK.outRN [0, 1, 2] hN rfl rfl rfl ?_ rfl rfl ?_)
  · exact frI
  · exact frI
theorem flagF_ok (L : List UInt8) (hL : L.length ≤ 900000) :
    DoesM Tryz.prog 88 [.c (.bool false), .ptr 0 0] [.cells 111 [.fn (.func 86) [] [.ptr 1 0]], .cells 172 [.vec 2 0], bO 0 L] (.tup [])
      [.cells 111 [.fn (.func 86) [] [.ptr 1 0]], .cells 172 [.vec 2 2], bO 2 (L ++ 32 :: Lib.itoa 0)] := by
  have c1 := write_ok 0 (by omega) (by omega) L hL
  refine DoesM.mk (fun _ => false) 100 TT_ok Tryz.func88 rfl (by kernel_rfl) Tryz.ntmps88 rfl rfl rfl fun E hT hE hN hR => ?_
  have hm := mixO hE
  (repeat (first | refine XK.n ?_ | refine XK.a ?_ | refine XK.b ?_)); refine XK.cond rfl (fun h1 => ?_) (fun h1 => ?_) <;> (try simp at h1)
  (repeat (first | refine XK.n ?_ | refine XK.a ?_ | refine XK.b ?_)); refine XK.region ?_; refine XL.g ?_
  refine XL.callMA [1, 2] hE rfl rfl rfl rfl trivial (c1) rfl rfl rfl rfl rfl ?_
  refine XL.g ?_; refine XL.fin ?_; (repeat (first | refine XK.n ?_ | refine XK.a ?_ | refine XK.b ?_))
  (first | refine XK.outR [0, 1, 2] hN rfl rfl rfl ?_ rfl rfl ?_ | refine XK.outRN [0, 1, 2] hN rfl rfl rfl ?_ rfl rfl ?_)
  · exact frI
  · exact frI
theorem flag_ok (b : Bool) (L : List UInt8) (hL : L.length ≤ 900000) :
    DoesM Tryz.prog 88 [.c (.bool b), .ptr 0 0] [.cells 111 [.fn (.func 86) [] [.ptr 1 0]], .cells 172 [.vec 2 0], bO 0 L] (.tup [])
      [.cells 111 [.fn (.func 86) [] [.ptr 1 0]], .cells 172 [.vec 2 2], bO 2 (L ++ 32 :: Lib.itoa (if b then 1 else 0))] := by
  cases b
  · exact flagF_ok L hL
  · exact flagT_ok L hL
end
section
open Go.Eng Go.RowKit Go.Lib Go.Sort
def mdP : Nat → Bool := fun d => [15, 16, 26].any (Nat.beq d)
def leftT (x : Int) : Nat → Int
  | 0 => x
  | i + 1 => (leftT x i).fdiv (2 ^ min (Int.toNat 8) IntKind.u64.bits)
def rowB (w : Nat → Int) : Nat → List AV := fun j => [.c (.int .u8 (w j))]
theorem rowB_set (w : Nat → Int) (i : Nat) (v : Int) (j : Nat) : rowB (setW w i v) j = setRowF (rowB w) i 0 [.c (.int .u8 v)] j := by
  unfold setRowF rowB setW
  by_cases h : j = i
  · subst h; rw [show Nat.beq j j = true by simp]; rfl
  · rw [beq_false h]; rfl
def lenT (x : Int) : Nat → Nat → Int
  | 0 => fun _ => 0
  | k + 1 => setW (lenT x k) (7 - (k : Int)).toNat (IntKind.u8.wrap (leftT x k))
def padX (n : Nat) : Int := IntKind.u64.wrap (IntKind.u64.wrap n * 8)
def padZ (s : ByteArray) : Nat := (119 - s.size) % 64
def padS (s : ByteArray) (n : Nat) : ByteArray := s ++ ⟨#[128]⟩ ++ ⟨(Lib.repeatL [0] (padZ s)).toArray⟩ ++ bytesS 8 (rowB (lenT (padX n) 8))
theorem rep_size (z : Nat) : (⟨(Lib.repeatL [0] z).toArray⟩ : ByteArray).size = z := by
  show (Lib.repeatL [0] z).toArray.size = z
  simp [Lib.repeatL_length]
theorem bytesS_size (n : Nat) (f : Nat → List AV) : (bytesS n f).size = n := by
  unfold bytesS
  rw [strOfNums_size]; simp
theorem padS_size (s : ByteArray) (hs : s.size < 64) (n : Nat) : (padS s n).size = 64 ∨ (padS s n).size = 128 := by
  unfold padS
  rw [ByteArray.size_append, ByteArray.size_append, ByteArray.size_append, rep_size, bytesS_size]
  show s.size + 1 + padZ s + 8 = 64 ∨ s.size + 1 + padZ s + 8 = 128
  unfold padZ
  omega
theorem padded_ok (s : ByteArray) (hs : s.size < 64) (n : Nat) (hn : n ≤ 100000000) : Does Tryz.prog 85 [.c (.string s), .c (.int .i64 n)] (.c (.string (padS s n))) := by
  have hz : (119 - (s.size : Int)).tmod 64 = (padZ s : Nat) := by
    rw [Int.tmod_eq_emod_of_nonneg (by omega)]
    unfold padZ
    omega
  have hzl : padZ s < 64 := Nat.mod_lt _ (by decide)
  have hs1 : (s ++ ⟨#[128]⟩ : ByteArray).size = s.size + 1 := by rw [ByteArray.size_append]; rfl
  have o1 : (((s ++ ⟨#[128]⟩ : ByteArray).size + (⟨(Lib.repeatL [0] (padZ s)).toArray⟩ : ByteArray).size : Nat) : Int) ≤ 9223372036854775807 := by rw [hs1, rep_size]; omega
  have o2 : (((s ++ ⟨#[128]⟩ ++ ⟨(Lib.repeatL [0] (padZ s)).toArray⟩ : ByteArray).size + (bytesS 8 (rowB (lenT (padX n) 8))).size : Nat) : Int) ≤ 9223372036854775807 := by rw [ByteArray.size_append, hs1, rep_size, bytesS_size]; omega
  refine Does.mk (mdP) TT_ok Tryz.func85 rfl (by kernel_rfl) Tryz.ntmps85 rfl rfl fun E hT hE hN hR => ?_
  have hm := mixO hE
  (repeat (first | refine XK.n ?_ | refine XK.a ?_ | refine XK.b ?_))
  refine XK.loop (ι := Nat) (fun k => ST.of [(0, .c (.string s)), (5, .c (.int .i64 (padZ s : Nat))), (6, .vec 85 0), (7, .c (.int .i64 (7 - (k : Int)))), (8, .c (.int .u64 (leftT (padX n) k)))] [(85, .vec 5 1 0 8 (rowB (lenT (padX n) k)))] 1000 36 mdP)
    (fun k => k ≤ 8) (fun k => 8 - k) 0 (Nat.zero_le _) (Weak.of hN rfl rfl rfl (by rw [hz]; (repeat' (first | exact rfl | exact AvIs.refl _ | exact trivial | exact fun _ _ => rfl | exact fun _ _ => ⟨rfl, AvIs.refl _⟩ | refine ⟨?_, ?_⟩))) frI) fun k hk => ?_
  (repeat (first | refine XK.n ?_ | refine XK.a ?_ | refine XK.b ?_)); refine XK.cond rfl (fun h1 => ?_) (fun h1 => ?_) <;> (try simp at h1)
  · have hst : lenT (padX n) (k + 1) = setW (lenT (padX n) k) (7 - (k : Int)).toNat (IntKind.u8.wrap (leftT (padX n) k)) := rfl
    have hst2 : leftT (padX n) (k + 1) = (leftT (padX n) k).fdiv (2 ^ min (Int.toNat 8) IntKind.u64.bits) := rfl
    (repeat (first | refine XK.n ?_ | refine XK.a ?_ | refine XK.b ?_))
    refine XK.inv ⟨k + 1, by omega, ?_, by omega⟩
    rw [hst, hst2]
    exact Weak.of hN rfl rfl rfl frV ⟨⟨rfl, rfl, rfl⟩, rfl, fun j hj => rowB_set _ _ _ j⟩
  have hke : k = 8 := by omega
  subst hke
  refine XK.weak (Weak.frozen (k := 85) hN rfl rfl) ?_
  (repeat (first | refine XK.n ?_ | refine XK.a ?_ | refine XK.b ?_))
  refine XK.drawn hm ?_
  refine XD.goA hT rfl rfl rfl rfl (ho := by show ((s.size + 1 : Nat) : Int) ≤ 9223372036854775807; omega) ?_
  refine XD.callLA hE rfl rfl rfl rfl trivial rfl (repeat_ok ⟨#[0]⟩ (padZ s) (by omega) (by show 1 * padZ s ≤ _; omega)) rfl ?_
  refine XD.goA hT rfl rfl rfl rfl (ho := ⟨o1, fun i hi => rfl, o2⟩) ?_
  refine XD.fin (by kernel_rfl) ?_
  (repeat (first | refine XK.n ?_ | refine XK.a ?_ | refine XK.b ?_))
  (first | refine XK.o ?_ | refine XK.p ?_)
  rfl
end
section
open Go.Eng Go.RowKit Go.Lib Go.Sort
def patchB : List UInt8 := [112, 97, 116, 99, 104]
def wrL : List Int → List UInt8
  | [] => []
  | z :: l => 32 :: Lib.itoa z ++ wrL l
theorem wrL_app : ∀ l m, wrL (l ++ m) = wrL l ++ wrL m
  | [], m => rfl
  | z :: l, m => by simp [wrL, wrL_app l m]
theorem wrL_snoc (l : List Int) (z : Int) : wrL (l ++ [z]) = wrL l ++ 32 :: Lib.itoa z := by rw [wrL_app]; simp [wrL]
def InL (l : List Int) : Prop := ∀ x ∈ l, inK .i64 x
theorem InL.nil : InL [] := fun x h => by cases h
theorem InL.snoc {l : List Int} {z : Int} (h : InL l) (hz : inK .i64 z) : InL (l ++ [z]) := fun x hx => by
  rcases List.mem_append.1 hx with h1 | h1
  · exact h x h1
  · rw [List.mem_singleton.1 h1]; exact hz
theorem InL.app {l m : List Int} (h : InL l) (hm : InL m) : InL (l ++ m) := fun x hx => by
  rcases List.mem_append.1 hx with h1 | h1
  · exact h x h1
  · exact hm x h1
theorem InL.take {l : List Int} (h : InL l) (i : Nat) : InL (l.take i) := fun x hx => h x (List.mem_of_mem_take hx)
theorem wrL_len : ∀ {l : List Int}, InL l → (wrL l).length ≤ 22 * l.length
  | [], _ => Nat.le_refl _
  | z :: l, h => by
    have h1 := wrL_len (l := l) fun x hx => h x (List.mem_cons_of_mem _ hx)
    have h2 := h z List.mem_cons_self
    have h3 := Lib.itoa_length_le z h2.1 h2.2
    simp only [wrL, List.length_append, List.length_cons]
    omega
def fl (b : Bool) : Int := if b then 1 else 0
theorem fl_in (b : Bool) : inK .i64 (fl b) := by cases b <;> simp [fl, inK]
def tO (s : Nat) (l : List Int) : Ob := bO s (patchB ++ wrL l)
theorem tO_len {l : List Int} (h : InL l) (hn : l.length ≤ 1000) : (patchB ++ wrL l).length ≤ 900000 := by
  have := wrL_len h
  simp only [List.length_append, patchB, List.length_cons, List.length_nil]
  omega
theorem writeL_ok (l : List Int) (z : Int) (hz : inK .i64 z) (hl : InL l) (hn : l.length ≤ 1000) :
    DoesM Tryz.prog 86 [.c (.int .i64 z), .ptr 0 0] [.cells 172 [.vec 1 0], tO 0 l] (.tup []) [.cells 172 [.vec 1 2], tO 2 (l ++ [z])] := by
  have h := write_ok z hz.1 hz.2 (patchB ++ wrL l) (tO_len hl hn)
  rw [List.append_assoc, ← wrL_snoc] at h
  exact h
theorem write1L_ok (g : Nat) (z : Int) (hz : inK .i64 z) :
    DoesM Tryz.prog 86 [.c (.int .i64 z), .ptr 0 0] [.cells 172 [.c (.slice (some ⟨g, 0, none⟩) 5 5)], .lrec (litMk 5 5) g (patchB.map fun b => .c (.int .u8 b.toNat))] (.tup [])
      [.cells 172 [.vec 2 0], .lrec (litMk 5 5) g (patchB.map fun b => .c (.int .u8 b.toNat)), tO 0 [z]] := by
  have h := write1_ok g z hz.1 hz.2 patchB rfl
  have e : patchB ++ 32 :: Lib.itoa z = patchB ++ wrL [z] := by simp [wrL]
  rw [e] at h
  exact h
theorem flagL_ok (l : List Int) (b : Bool) (hl : InL l) (hn : l.length ≤ 1000) :
    DoesM Tryz.prog 88 [.c (.bool b), .ptr 0 0] [.cells 111 [.fn (.func 86) [] [.ptr 1 0]], .cells 172 [.vec 2 0], tO 0 l] (.tup [])
      [.cells 111 [.fn (.func 86) [] [.ptr 1 0]], .cells 172 [.vec 2 2], tO 2 (l ++ [fl b])] := by
  have h := flag_ok b (patchB ++ wrL l) (tO_len hl hn)
  rw [List.append_assoc, ← wrL_snoc] at h
  exact h
theorem take_snocT {l : List Int} {i : Nat} (h : i < l.length) : l.take (i + 1) = l.take i ++ [l.getD i default] := by
  rw [List.take_add_one, List.getElem?_eq_getElem h]
  simp [List.getD, h]
def cdL : List Cnd → List Int
  | [] => []
  | s :: l => s.clause :: s.is :: cdL l
theorem cdL_app : ∀ l m, cdL (l ++ m) = cdL l ++ cdL m
  | [], m => rfl
  | z :: l, m => by simp [cdL, cdL_app l m]
theorem cdL_snoc {l : List Cnd} {i : Nat} (h : i < l.length) : cdL (l.take (i + 1)) = cdL (l.take i) ++ [(l.getD i default).clause] ++ [(l.getD i default).is] := by
  rw [List.take_add_one, List.getElem?_eq_getElem h, cdL_app]
  simp [List.getD, h, cdL]
theorem cdL_in : ∀ {l : List Cnd}, (∀ x ∈ l, cndW x) → InL (cdL l)
  | [], _ => InL.nil
  | s :: l, h => fun x hx => by
    have h1 := h s List.mem_cons_self
    have h2 := cdL_in (l := l) fun x hx => h x (List.mem_cons_of_mem _ hx)
    simp only [cdL, List.mem_cons] at hx
    rcases hx with rfl | rfl | hx
    · exact h1.1
    · exact h1.2
    · exact h2 x hx
theorem cdL_len : ∀ l : List Cnd, (cdL l).length = 2 * l.length
  | [] => rfl
  | s :: l => by simp only [cdL, List.length_cons, cdL_len l]; omega
def six1 (k : Cl) : List Int := [k.kind, k.role, k.act, k.need, k.after, k.grace]
def six2 (k : Cl) : List Int := [k.pause, k.resume, k.value.1, k.value.2, k.unit, k.to]
def pL1 (p : Pt) : List Int := [p.kind] ++ [p.days] ++ [(p.clauses.length : Int)]
def pL2 (p : Pt) : List Int := pL1 p ++ p.clauses
def pL3 (p : Pt) : List Int := pL2 p ++ six1 p.new
def pL4 (p : Pt) : List Int := pL3 p ++ [fl p.new.business] ++ [fl p.new.final]
def pL5 (p : Pt) : List Int := pL4 p ++ six2 p.new
def pL6 (p : Pt) : List Int := pL5 p ++ [fl p.new.waived] ++ [(p.new.start.length : Int)]
def pL7 (p : Pt) : List Int := pL6 p ++ cdL p.new.start
def textS (p : Pt) : ByteArray := if 400 < p.clauses.length ∨ 8 < p.new.start.length then ⟨#[]⟩ else ⟨(patchB ++ wrL (pL7 p)).toArray⟩
theorem bytesS_row (L : List UInt8) : bytesS L.length (fun i => byC (L.getD i 0)) = ⟨L.toArray⟩ := by
  have h : (List.range L.length).map (fun i => byteN (byC (L.getD i 0))) = L.map fun b => (b.toNat : Int) := by
    refine List.ext_getElem (by simp) fun i h1 h2 => ?_
    have hi : i < L.length := by simpa using h2
    simp [byteN, byC, hi]
  unfold bytesS
  rw [h]
  unfold strOfNums
  congr 2
  rw [List.map_map]
  refine List.ext_getElem (by simp) fun i h1 h2 => ?_
  simp
theorem getD_memT {α : Type} [Inhabited α] {l : List α} {i : Nat} (h : i < l.length) : l.getD i default ∈ l := by
  rw [List.getD_eq_getElem?_getD, List.getElem?_eq_getElem h]; exact List.getElem_mem h
set_option maxHeartbeats 1000000 in
theorem text_ok (p : Pt) (hp : ptW p) : Does Tryz.prog 48 [ptV p] (.c (.string (textS p))) := by
  obtain ⟨w1, w2, ⟨x1, x2, x3, x4, x5, x6, x7, x8, x9, x10, x11, x12⟩, w4⟩ := hp
  refine Does.mk (fun _ => false) TT_ok Tryz.func48 rfl (by kernel_rfl) Tryz.ntmps48 rfl rfl fun E hT hE hN hR => ?_
  have hm := mixO hE
  (repeat (first | refine XK.n ?_ | refine XK.a ?_ | refine XK.b ?_))
  (repeat (first | refine XK.n ?_ | refine XK.a ?_ | refine XK.b ?_)); refine XK.cond rfl (fun h1 => ?_) (fun h1 => ?_) <;> (try simp at h1)
  · (repeat (first | refine XK.n ?_ | refine XK.a ?_ | refine XK.b ?_))
    (first | refine XK.o ?_ | refine XK.p ?_)
    rw [textS, if_pos (by omega)]
  rw [textS, if_neg (by omega)]
  have i1 : InL (pL1 p) := ((InL.nil.snoc w1).snoc w4).snoc (by simp only [inK]; omega)
  have i2 : InL (pL2 p) := i1.app w2
  have i3 : InL (pL3 p) := i2.app ((((((InL.nil.snoc x1).snoc x2).snoc x3).snoc x4).snoc x6).snoc x7)
  have i4 : InL (pL4 p) := (i3.snoc (fl_in _)).snoc (fl_in _)
  have i5 : InL (pL5 p) := i4.app ((((((InL.nil.snoc x8).snoc x9).snoc x10.1).snoc x10.2).snoc x11).snoc x12)
  have i6 : InL (pL6 p) := (i5.snoc (fl_in _)).snoc (by simp only [inK]; omega)
  have n1 : (pL1 p).length = 3 := rfl
  have n2 : (pL2 p).length = 3 + p.clauses.length := by simp only [pL2, List.length_append, n1]
  have n3 : (pL3 p).length = 9 + p.clauses.length := by simp [pL3, n2, six1]; omega
  have n4 : (pL4 p).length = 11 + p.clauses.length := by simp [pL4, n3]; omega
  have n5 : (pL5 p).length = 17 + p.clauses.length := by simp [pL5, n4, six2]; omega
  have n6 : (pL6 p).length = 19 + p.clauses.length := by simp [pL6, n5]; omega
  refine XK.norm rfl rfl ?_
  refine XK.region ?_
  refine XL.litBytes hT rfl rfl rfl rfl rfl rfl rfl byteTy rfl rfl rfl fun g => ?_
  refine XL.g ?_
  refine XL.fin ?_
  (repeat (first | refine XK.n ?_ | refine XK.a ?_ | refine XK.b ?_))
  refine XK.weak (Weak.of (L := [(1, .ptr 1 0), (3, .ptr 277 0), (4, .ptr 415 0), (5, .fn (.func 88) [] [.ptr 415 0])]) (O := [(1, .cells 58 (ptC p)), (277, .cells 172 [.c (.slice (some ⟨g, 0, none⟩) 5 5)]), (301, .lrec (litMk 5 5) g (patchB.map fun b => .c (.int .u8 b.toNat))), (415, .cells 111 [.fn (.func 86) [] [.ptr 277 0]])]) (nx := 1000) (nt := 137) (md := fun _ => false) hN rfl rfl rfl frI frI) ?_
  (repeat (first | refine XK.n ?_ | refine XK.a ?_ | refine XK.b ?_)); refine XK.region ?_; refine XL.g ?_
  refine XL.callMA [277, 301, 900] hE rfl rfl rfl rfl trivial (write1L_ok g p.kind w1) rfl rfl rfl rfl rfl ?_
  refine XL.g ?_; refine XL.fin ?_; (repeat (first | refine XK.n ?_ | refine XK.a ?_ | refine XK.b ?_))
  refine XK.weak (Weak.of (L := [(1, .ptr 1 0), (3, .ptr 277 0), (4, .ptr 415 0), (5, .fn (.func 88) [] [.ptr 415 0])]) (O := [(1, .cells 58 (ptC p)), (277, .cells 172 [.vec 900 0]), (415, .cells 111 [.fn (.func 86) [] [.ptr 277 0]]), (900, tO 0 ([p.kind]))]) (nx := 1000) (nt := 137) (md := fun _ => false) hN rfl rfl rfl (by (repeat' (first | exact rfl | exact AvIs.refl _ | exact trivial | exact fun _ _ => rfl | exact fun _ _ => ⟨rfl, AvIs.refl _⟩ | exact cI (by omega) | exact (cI (by omega)) | refine ⟨?_, ?_⟩))) frI) ?_
  (repeat (first | refine XK.n ?_ | refine XK.a ?_ | refine XK.b ?_)); refine XK.region ?_; refine XL.g ?_
  refine XL.callMA [277, 900] hE rfl rfl rfl rfl trivial (writeL_ok ([p.kind]) (p.days) w4 (InL.nil.snoc w1) (by simp)) rfl rfl rfl rfl rfl ?_
  refine XL.g ?_; refine XL.fin ?_; (repeat (first | refine XK.n ?_ | refine XK.a ?_ | refine XK.b ?_))
  refine XK.weak (Weak.trans (Weak.stamp (k := 900) (t := 0) hN rfl rfl) (Weak.of (L := [(1, .ptr 1 0), (3, .ptr 277 0), (4, .ptr 415 0), (5, .fn (.func 88) [] [.ptr 415 0])]) (O := [(1, .cells 58 (ptC p)), (277, .cells 172 [.vec 900 0]), (415, .cells 111 [.fn (.func 86) [] [.ptr 277 0]]), (900, tO 0 ([p.kind] ++ [p.days]))]) (nx := 1000) (nt := 137) (md := fun _ => false) hN rfl rfl rfl (by (repeat' (first | exact rfl | exact AvIs.refl _ | exact trivial | exact fun _ _ => rfl | exact fun _ _ => ⟨rfl, AvIs.refl _⟩ | exact cI (by omega) | exact (cI (by omega)) | refine ⟨?_, ?_⟩))) frI)) ?_
  (repeat (first | refine XK.n ?_ | refine XK.a ?_ | refine XK.b ?_)); refine XK.region ?_; refine XL.g ?_
  refine XL.callMA [277, 900] hE rfl rfl rfl rfl trivial (writeL_ok ([p.kind] ++ [p.days]) (p.clauses.length) (by simp only [inK]; omega) ((InL.nil.snoc w1).snoc w4) (by simp)) rfl rfl rfl rfl rfl ?_
  refine XL.g ?_; refine XL.fin ?_; (repeat (first | refine XK.n ?_ | refine XK.a ?_ | refine XK.b ?_))
  have c1i : InL p.clauses := w2
  have s1i : InL (six1 p.new) := ((((((InL.nil.snoc x1).snoc x2).snoc x3).snoc x4).snoc x6).snoc x7)
  have s2i : InL (six2 p.new) := ((((((InL.nil.snoc x8).snoc x9).snoc x10.1).snoc x10.2).snoc x11).snoc x12)
  have tk : ∀ i, i < (p.clauses).length → pL1 p ++ (p.clauses).take (i + 1) = pL1 p ++ (p.clauses).take i ++ [(p.clauses).getD i default] := fun i h => by rw [take_snocT h, List.append_assoc]
  refine XK.loop (ι := Nat) (fun i => ST.of [(1, .ptr 1 0), (3, .ptr 277 0), (4, .ptr 415 0), (5, .fn (.func 88) [] [.ptr 415 0]), (44, .rs 1 (p.clauses.length) (fun j => iC ((p.clauses).getD j default))), (45, .c (.int .i64 (p.clauses.length : Nat))), (46, .c (.int .i64 i))] [(1, .cells 58 (ptC p)), (277, .cells 172 [.vec 900 0]), (415, .cells 111 [.fn (.func 86) [] [.ptr 277 0]]), (900, tO 0 (pL1 p ++ (p.clauses).take i))] 1000 137 (fun _ => false))
    (fun i => i ≤ p.clauses.length) (fun i => p.clauses.length - i) 0 (Nat.zero_le _) (by rw [List.take_zero, List.append_nil]; exact Weak.trans (Weak.stamp (k := 900) (t := 0) hN rfl rfl) (Weak.of hN rfl rfl rfl (by (repeat' (first | exact rfl | exact AvIs.refl _ | exact trivial | exact fun _ _ => rfl | exact fun _ _ => ⟨rfl, AvIs.refl _⟩ | exact cI (by omega) | exact (cI (by omega)) | refine ⟨?_, ?_⟩))) frI)) fun i hi => ?_
  (repeat (first | refine XK.n ?_ | refine XK.a ?_ | refine XK.b ?_)); refine XK.cond rfl (fun hlt => ?_) (fun hlt => ?_) <;> (try simp at hlt)
  · have hlt : i < (p.clauses).length := by (try simp only [six1, six2, List.length_cons, List.length_nil]); omega
    (repeat (first | refine XK.n ?_ | refine XK.a ?_ | refine XK.b ?_))
    (repeat (first | refine XK.n ?_ | refine XK.a ?_ | refine XK.b ?_)); refine XK.region ?_; refine XL.g ?_
    refine XL.callMA [277, 900] hE rfl rfl rfl rfl trivial (writeL_ok (pL1 p ++ (p.clauses).take i) ((p.clauses).getD i default) (c1i _ (getD_memT hlt)) (i1.app (InL.take c1i i)) (by rw [List.length_append, n1, List.length_take]; omega)) rfl rfl rfl rfl rfl ?_
    refine XL.g ?_; refine XL.fin ?_; (repeat (first | refine XK.n ?_ | refine XK.a ?_ | refine XK.b ?_))
    refine XK.inv ⟨i + 1, by (try simp only [six1, six2, List.length_cons, List.length_nil] at hlt); omega, ?_, by (try simp only [six1, six2, List.length_cons, List.length_nil] at hlt); omega⟩
    rw [tk i hlt]
    exact Weak.trans (Weak.stamp (k := 900) (t := 0) hN rfl rfl) (Weak.of hN rfl rfl rfl (by (repeat' (first | exact rfl | exact AvIs.refl _ | exact trivial | exact fun _ _ => rfl | exact fun _ _ => ⟨rfl, AvIs.refl _⟩ | exact cI (by omega) | exact (cI (by omega)) | refine ⟨?_, ?_⟩))) frI)
  clear tk
  have hie : i = p.clauses.length := by omega
  subst hie
  rw [show (p.clauses).take (p.clauses.length) = p.clauses from by first | exact List.take_length | rfl]
  (repeat (first | refine XK.n ?_ | refine XK.a ?_ | refine XK.b ?_))
  have tk : ∀ i, i < (six1 p.new).length → pL2 p ++ (six1 p.new).take (i + 1) = pL2 p ++ (six1 p.new).take i ++ [(six1 p.new).getD i default] := fun i h => by rw [take_snocT h, List.append_assoc]
  refine XK.loop (ι := Nat) (fun i => ST.of [(1, .ptr 1 0), (3, .ptr 277 0), (4, .ptr 415 0), (5, .fn (.func 88) [] [.ptr 415 0]), (8, .ptr 1145 0), (68, .rs 1 (6) (fun j => iC ((six1 p.new).getD j default))), (69, .c (.int .i64 (6 : Nat))), (70, .c (.int .i64 i))] [(1, .cells 58 (ptC p)), (277, .cells 172 [.vec 900 0]), (415, .cells 111 [.fn (.func 86) [] [.ptr 277 0]]), (900, tO 0 (pL2 p ++ (six1 p.new).take i)), (1145, .cells 56 (clC p.new))] 1000 137 (fun _ => false))
    (fun i => i ≤ 6) (fun i => 6 - i) 0 (Nat.zero_le _) (by rw [List.take_zero, List.append_nil]; exact Weak.of hN rfl rfl rfl ⟨rfl, rfl, rfl, rfl, rfl, ⟨rfl, rfl, fun j hj => by rcases j with _ | _ | _ | _ | _ | _ | j <;> first | rfl | (exfalso; omega)⟩, rfl, rfl⟩ frI) fun i hi => ?_
  (repeat (first | refine XK.n ?_ | refine XK.a ?_ | refine XK.b ?_)); refine XK.cond rfl (fun hlt => ?_) (fun hlt => ?_) <;> (try simp at hlt)
  · have hlt : i < (six1 p.new).length := by (try simp only [six1, six2, List.length_cons, List.length_nil]); omega
    (repeat (first | refine XK.n ?_ | refine XK.a ?_ | refine XK.b ?_))
    (repeat (first | refine XK.n ?_ | refine XK.a ?_ | refine XK.b ?_)); refine XK.region ?_; refine XL.g ?_
    refine XL.callMA [277, 900] hE rfl rfl rfl rfl trivial (writeL_ok (pL2 p ++ (six1 p.new).take i) ((six1 p.new).getD i default) (s1i _ (getD_memT hlt)) (i2.app (InL.take s1i i)) (by rw [List.length_append, n2, List.length_take]; omega)) rfl rfl rfl rfl rfl ?_
    refine XL.g ?_; refine XL.fin ?_; (repeat (first | refine XK.n ?_ | refine XK.a ?_ | refine XK.b ?_))
    refine XK.inv ⟨i + 1, by (try simp only [six1, six2, List.length_cons, List.length_nil] at hlt); omega, ?_, by (try simp only [six1, six2, List.length_cons, List.length_nil] at hlt); omega⟩
    rw [tk i hlt]
    exact Weak.trans (Weak.stamp (k := 900) (t := 0) hN rfl rfl) (Weak.of hN rfl rfl rfl (by (repeat' (first | exact rfl | exact AvIs.refl _ | exact trivial | exact fun _ _ => rfl | exact fun _ _ => ⟨rfl, AvIs.refl _⟩ | exact cI (by omega) | exact (cI (by omega)) | refine ⟨?_, ?_⟩))) frI)
  clear tk
  have hie : i = 6 := by omega
  subst hie
  rw [show (six1 p.new).take (6) = six1 p.new from by first | exact List.take_length | rfl]
  refine XK.weak (Weak.of (L := [(1, .ptr 1 0), (3, .ptr 277 0), (4, .ptr 415 0), (5, .fn (.func 88) [] [.ptr 415 0]), (8, .ptr 1145 0)]) (O := [(1, .cells 58 (ptC p)), (277, .cells 172 [.vec 900 0]), (415, .cells 111 [.fn (.func 86) [] [.ptr 277 0]]), (900, tO 0 (pL3 p)), (1145, .cells 56 (clC p.new))]) (nx := 1000) (nt := 137) (md := fun _ => false) hN rfl rfl rfl (by (repeat' (first | exact rfl | exact AvIs.refl _ | exact trivial | exact fun _ _ => rfl | exact fun _ _ => ⟨rfl, AvIs.refl _⟩ | exact cI (by omega) | exact (cI (by omega)) | refine ⟨?_, ?_⟩))) frI) ?_
  (repeat (first | refine XK.n ?_ | refine XK.a ?_ | refine XK.b ?_)); refine XK.region ?_; refine XL.g ?_
  refine XL.callMA [415, 277, 900] hE rfl rfl rfl rfl trivial (flagL_ok (pL3 p) p.new.business i3 (by omega)) rfl rfl rfl rfl rfl ?_
  refine XL.g ?_; refine XL.fin ?_; (repeat (first | refine XK.n ?_ | refine XK.a ?_ | refine XK.b ?_))
  refine XK.weak (Weak.trans (Weak.stamp (k := 900) (t := 0) hN rfl rfl) (Weak.of (L := [(1, .ptr 1 0), (3, .ptr 277 0), (4, .ptr 415 0), (5, .fn (.func 88) [] [.ptr 415 0]), (8, .ptr 1145 0)]) (O := [(1, .cells 58 (ptC p)), (277, .cells 172 [.vec 900 0]), (415, .cells 111 [.fn (.func 86) [] [.ptr 277 0]]), (900, tO 0 (pL3 p ++ [fl p.new.business])), (1145, .cells 56 (clC p.new))]) (nx := 1000) (nt := 137) (md := fun _ => false) hN rfl rfl rfl (by (repeat' (first | exact rfl | exact AvIs.refl _ | exact trivial | exact fun _ _ => rfl | exact fun _ _ => ⟨rfl, AvIs.refl _⟩ | exact cI (by omega) | exact (cI (by omega)) | refine ⟨?_, ?_⟩))) frI)) ?_
  (repeat (first | refine XK.n ?_ | refine XK.a ?_ | refine XK.b ?_)); refine XK.region ?_; refine XL.g ?_
  refine XL.callMA [415, 277, 900] hE rfl rfl rfl rfl trivial (flagL_ok (pL3 p ++ [fl p.new.business]) p.new.final (i3.snoc (fl_in _)) (by simp [n3]; omega)) rfl rfl rfl rfl rfl ?_
  refine XL.g ?_; refine XL.fin ?_; (repeat (first | refine XK.n ?_ | refine XK.a ?_ | refine XK.b ?_))
  have tk : ∀ i, i < (six2 p.new).length → pL4 p ++ (six2 p.new).take (i + 1) = pL4 p ++ (six2 p.new).take i ++ [(six2 p.new).getD i default] := fun i h => by rw [take_snocT h, List.append_assoc]
  refine XK.loop (ι := Nat) (fun i => ST.of [(1, .ptr 1 0), (3, .ptr 277 0), (4, .ptr 415 0), (5, .fn (.func 88) [] [.ptr 415 0]), (8, .ptr 1145 0), (100, .rs 1 (6) (fun j => iC ((six2 p.new).getD j default))), (101, .c (.int .i64 (6 : Nat))), (102, .c (.int .i64 i))] [(1, .cells 58 (ptC p)), (277, .cells 172 [.vec 900 0]), (415, .cells 111 [.fn (.func 86) [] [.ptr 277 0]]), (900, tO 0 (pL4 p ++ (six2 p.new).take i)), (1145, .cells 56 (clC p.new))] 1000 137 (fun _ => false))
    (fun i => i ≤ 6) (fun i => 6 - i) 0 (Nat.zero_le _) (by rw [List.take_zero, List.append_nil]; exact Weak.trans (Weak.stamp (k := 900) (t := 0) hN rfl rfl) (Weak.of hN rfl rfl rfl ⟨rfl, rfl, rfl, rfl, rfl, ⟨rfl, rfl, fun j hj => by rcases j with _ | _ | _ | _ | _ | _ | j <;> first | rfl | (exfalso; omega)⟩, rfl, rfl⟩ frI)) fun i hi => ?_
  (repeat (first | refine XK.n ?_ | refine XK.a ?_ | refine XK.b ?_)); refine XK.cond rfl (fun hlt => ?_) (fun hlt => ?_) <;> (try simp at hlt)
  · have hlt : i < (six2 p.new).length := by (try simp only [six1, six2, List.length_cons, List.length_nil]); omega
    (repeat (first | refine XK.n ?_ | refine XK.a ?_ | refine XK.b ?_))
    (repeat (first | refine XK.n ?_ | refine XK.a ?_ | refine XK.b ?_)); refine XK.region ?_; refine XL.g ?_
    refine XL.callMA [277, 900] hE rfl rfl rfl rfl trivial (writeL_ok (pL4 p ++ (six2 p.new).take i) ((six2 p.new).getD i default) (s2i _ (getD_memT hlt)) (i4.app (InL.take s2i i)) (by rw [List.length_append, n4, List.length_take]; omega)) rfl rfl rfl rfl rfl ?_
    refine XL.g ?_; refine XL.fin ?_; (repeat (first | refine XK.n ?_ | refine XK.a ?_ | refine XK.b ?_))
    refine XK.inv ⟨i + 1, by (try simp only [six1, six2, List.length_cons, List.length_nil] at hlt); omega, ?_, by (try simp only [six1, six2, List.length_cons, List.length_nil] at hlt); omega⟩
    rw [tk i hlt]
    exact Weak.trans (Weak.stamp (k := 900) (t := 0) hN rfl rfl) (Weak.of hN rfl rfl rfl (by (repeat' (first | exact rfl | exact AvIs.refl _ | exact trivial | exact fun _ _ => rfl | exact fun _ _ => ⟨rfl, AvIs.refl _⟩ | exact cI (by omega) | exact (cI (by omega)) | refine ⟨?_, ?_⟩))) frI)
  clear tk
  have hie : i = 6 := by omega
  subst hie
  rw [show (six2 p.new).take (6) = six2 p.new from by first | exact List.take_length | rfl]
  refine XK.weak (Weak.of (L := [(1, .ptr 1 0), (3, .ptr 277 0), (4, .ptr 415 0), (5, .fn (.func 88) [] [.ptr 415 0]), (8, .ptr 1145 0)]) (O := [(1, .cells 58 (ptC p)), (277, .cells 172 [.vec 900 0]), (415, .cells 111 [.fn (.func 86) [] [.ptr 277 0]]), (900, tO 0 (pL5 p)), (1145, .cells 56 (clC p.new))]) (nx := 1000) (nt := 137) (md := fun _ => false) hN rfl rfl rfl (by (repeat' (first | exact rfl | exact AvIs.refl _ | exact trivial | exact fun _ _ => rfl | exact fun _ _ => ⟨rfl, AvIs.refl _⟩ | exact cI (by omega) | exact (cI (by omega)) | refine ⟨?_, ?_⟩))) frI) ?_
  (repeat (first | refine XK.n ?_ | refine XK.a ?_ | refine XK.b ?_)); refine XK.region ?_; refine XL.g ?_
  refine XL.callMA [415, 277, 900] hE rfl rfl rfl rfl trivial (flagL_ok (pL5 p) p.new.waived i5 (by omega)) rfl rfl rfl rfl rfl ?_
  refine XL.g ?_; refine XL.fin ?_; (repeat (first | refine XK.n ?_ | refine XK.a ?_ | refine XK.b ?_))
  refine XK.weak (Weak.trans (Weak.stamp (k := 900) (t := 0) hN rfl rfl) (Weak.of (L := [(1, .ptr 1 0), (3, .ptr 277 0), (4, .ptr 415 0), (5, .fn (.func 88) [] [.ptr 415 0]), (8, .ptr 1145 0)]) (O := [(1, .cells 58 (ptC p)), (277, .cells 172 [.vec 900 0]), (415, .cells 111 [.fn (.func 86) [] [.ptr 277 0]]), (900, tO 0 (pL5 p ++ [fl p.new.waived])), (1145, .cells 56 (clC p.new))]) (nx := 1000) (nt := 137) (md := fun _ => false) hN rfl rfl rfl (by (repeat' (first | exact rfl | exact AvIs.refl _ | exact trivial | exact fun _ _ => rfl | exact fun _ _ => ⟨rfl, AvIs.refl _⟩ | exact cI (by omega) | exact (cI (by omega)) | refine ⟨?_, ?_⟩))) frI)) ?_
  (repeat (first | refine XK.n ?_ | refine XK.a ?_ | refine XK.b ?_)); refine XK.region ?_; refine XL.g ?_
  refine XL.callMA [277, 900] hE rfl rfl rfl rfl trivial (writeL_ok (pL5 p ++ [fl p.new.waived]) (p.new.start.length) (by simp only [inK]; omega) (i5.snoc (fl_in _)) (by simp [n5]; omega)) rfl rfl rfl rfl rfl ?_
  refine XL.g ?_; refine XL.fin ?_; (repeat (first | refine XK.n ?_ | refine XK.a ?_ | refine XK.b ?_))
  have hS : ∀ i, i < p.new.start.length → cndW (p.new.start.getD i default) := fun i h => x5 _ (getD_memT h)
  have tk : ∀ i, i < p.new.start.length → pL6 p ++ cdL (p.new.start.take (i + 1)) = pL6 p ++ cdL (p.new.start.take i) ++ [(p.new.start.getD i default).clause] ++ [(p.new.start.getD i default).is] := fun i h => by rw [cdL_snoc h, List.append_assoc, List.append_assoc, List.append_assoc]
  refine XK.loop (ι := Nat) (fun i => ST.of [(1, .ptr 1 0), (3, .ptr 277 0), (4, .ptr 415 0), (5, .fn (.func 88) [] [.ptr 415 0]), (8, .ptr 1145 0), (120, cndsV p.new.start), (121, .c (.int .i64 (p.new.start.length : Nat))), (122, .c (.int .i64 i))] [(1, .cells 58 (ptC p)), (277, .cells 172 [.vec 900 0]), (415, .cells 111 [.fn (.func 86) [] [.ptr 277 0]]), (900, tO 0 (pL6 p ++ cdL (p.new.start.take i))), (1145, .cells 56 (clC p.new))] 1000 137 (fun _ => false))
    (fun i => i ≤ p.new.start.length) (fun i => p.new.start.length - i) 0 (Nat.zero_le _) (by rw [List.take_zero, show cdL [] = [] from rfl, List.append_nil]; exact Weak.trans (Weak.stamp (k := 900) (t := 0) hN rfl rfl) (Weak.of hN rfl rfl rfl (by (repeat' (first | exact rfl | exact AvIs.refl _ | exact trivial | exact fun _ _ => rfl | exact fun _ _ => ⟨rfl, AvIs.refl _⟩ | exact cI (by omega) | exact (cI (by omega)) | refine ⟨?_, ?_⟩))) frI)) fun i hi => ?_
  (repeat (first | refine XK.n ?_ | refine XK.a ?_ | refine XK.b ?_)); refine XK.cond rfl (fun hlt => ?_) (fun hlt => ?_) <;> (try simp at hlt)
  · have hiL : InL (pL6 p ++ cdL (p.new.start.take i)) := i6.app (cdL_in fun x hx => x5 x (List.mem_of_mem_take hx))
    have hlL : (pL6 p ++ cdL (p.new.start.take i)).length ≤ 500 := by rw [List.length_append, n6, cdL_len, List.length_take]; omega
    have hSi := hS i hlt
    (repeat (first | refine XK.n ?_ | refine XK.a ?_ | refine XK.b ?_))
    (repeat (first | refine XK.n ?_ | refine XK.a ?_ | refine XK.b ?_)); refine XK.region ?_; refine XL.g ?_
    refine XL.callMA [277, 900] hE rfl rfl rfl rfl trivial (writeL_ok (pL6 p ++ cdL (p.new.start.take i)) (p.new.start.getD i default).clause hSi.1 hiL (by omega)) rfl rfl rfl rfl rfl ?_
    refine XL.g ?_; refine XL.fin ?_; (repeat (first | refine XK.n ?_ | refine XK.a ?_ | refine XK.b ?_))
    refine XK.weak (Weak.trans (Weak.stamp (k := 900) (t := 0) hN rfl rfl) (Weak.of (L := [(1, .ptr 1 0), (3, .ptr 277 0), (4, .ptr 415 0), (5, .fn (.func 88) [] [.ptr 415 0]), (8, .ptr 1145 0), (120, cndsV p.new.start), (121, .c (.int .i64 (p.new.start.length : Nat))), (122, .c (.int .i64 i)), (14, .ptr 1151 0)]) (O := [(1, .cells 58 (ptC p)), (277, .cells 172 [.vec 900 0]), (415, .cells 111 [.fn (.func 86) [] [.ptr 277 0]]), (900, tO 0 (pL6 p ++ cdL (p.new.start.take i) ++ [(p.new.start.getD i default).clause])), (1145, .cells 56 (clC p.new)), (1151, .cells 132 (cndC (p.new.start.getD i default)))]) (nx := 3000) (nt := 137) (md := fun _ => false) hN rfl rfl rfl frI frI)) ?_
    (repeat (first | refine XK.n ?_ | refine XK.a ?_ | refine XK.b ?_)); refine XK.region ?_; refine XL.g ?_
    refine XL.callMA [277, 900] hE rfl rfl rfl rfl trivial (writeL_ok (pL6 p ++ cdL (p.new.start.take i) ++ [(p.new.start.getD i default).clause]) (p.new.start.getD i default).is hSi.2 (hiL.snoc hSi.1) (by rw [List.length_append]; simp only [List.length_cons, List.length_nil]; omega)) rfl rfl rfl rfl rfl ?_
    refine XL.g ?_; refine XL.fin ?_; (repeat (first | refine XK.n ?_ | refine XK.a ?_ | refine XK.b ?_))
    refine XK.inv ⟨i + 1, hlt, ?_, by omega⟩
    rw [tk i hlt]
    exact Weak.trans (Weak.stamp (k := 900) (t := 0) hN rfl rfl) (Weak.of hN rfl rfl rfl (by (repeat' (first | exact rfl | exact AvIs.refl _ | exact trivial | exact fun _ _ => rfl | exact fun _ _ => ⟨rfl, AvIs.refl _⟩ | exact cI (by omega) | exact (cI (by omega)) | refine ⟨?_, ?_⟩))) frI)
  have hie : i = p.new.start.length := by omega
  subst hie
  rw [List.take_length]
  refine XK.weak (Weak.frozen (k := 900) hN rfl rfl) ?_
  (repeat (first | refine XK.n ?_ | refine XK.a ?_ | refine XK.b ?_))
  (first | refine XK.o ?_ | refine XK.p ?_)
  rw [bytesS_row]; rfl
end
section
open Go.Eng Go.RowKit Go.Lib Go.Sort
def ivW : Nat → Int
  | 0 => 1779033703
  | 1 => 3144134277
  | 2 => 1013904242
  | 3 => 2773480762
  | 4 => 1359893119
  | 5 => 2600822924
  | 6 => 528734635
  | _ => 1541459225
def blT (s : ByteArray) (h : Nat → Int) : Nat → ByteArray × (Nat → Int)
  | 0 => (s, h)
  | i + 1 => ((blT s h i).1.extract (Int.toNat 64) (blT s h i).1.size, mixF (blT s h i).2 ((blT s h i).1.extract 0 (Int.toNat 64)))
theorem blT_size (s : ByteArray) (h : Nat → Int) : ∀ i, 64 * i ≤ s.size → (blT s h i).1.size + 64 * i = s.size
  | 0, _ => by simp [blT]
  | i + 1, hi => by
    have ih := blT_size s h i (by omega)
    simp only [blT, ByteArray.size_extract]
    show min _ _ - 64 + _ = _
    omega
def digI (w : Int) (k : Nat) : Int := bits .and .u32 (w.fdiv (2 ^ min (28 - 4 * (k : Int)).toNat IntKind.u32.bits)) 15
def digU (w : Int) (k : Nat) : UInt8 := ((⟨#[48, 49, 50, 51, 52, 53, 54, 55, 56, 57, 97, 98, 99, 100, 101, 102]⟩ : ByteArray)[(digI w k).toNat]?).getD 0
theorem digI_in (w : Int) (k : Nat) : 0 ≤ digI w k ∧ digI w k < 16 := by
  unfold digI bits
  rw [IntKind.wrap_u32]
  have h : ((BitVec.ofInt IntKind.u32.bits (w.fdiv (2 ^ min (28 - 4 * (k : Int)).toNat IntKind.u32.bits))) &&& (BitVec.ofInt IntKind.u32.bits 15)).toNat ≤ 15 := by
    rw [BitVec.toNat_and]
    exact Nat.and_le_right
  dsimp only
  omega
def hexI (w : Int) : Nat → List UInt8
  | 0 => []
  | k + 1 => hexI w k ++ [digU w k]
def hexA (g : Nat → Int) : Nat → List UInt8
  | 0 => []
  | i + 1 => hexA g i ++ hexI (g i) 8
theorem hexI_len (w : Int) : ∀ k, (hexI w k).length = k
  | 0 => rfl
  | k + 1 => by simp [hexI, hexI_len w k]
theorem hexA_len (g : Nat → Int) : ∀ i, (hexA g i).length = 8 * i
  | 0 => rfl
  | i + 1 => by simp only [hexA, List.length_append, hexA_len g i, hexI_len]; omega
theorem snocE (L : List UInt8) (b : UInt8) (g : Nat → List AV) (h : g 0 = byC b) : ∀ i, i < (L ++ [b]).length → byC ((L ++ [b]).getD i 0) = catF L.length (fun i => byC (L.getD i 0)) g i := fun i hi => by
  unfold catF
  by_cases h1 : i < L.length
  · rw [blt_yes h1]; simp [List.getD, List.getElem?_append_left h1]
  · have : i = L.length := by simp at hi; omega
    subst this
    rw [blt_no (Nat.le_refl _), Nat.sub_self, cond_false, h]
    simp [List.getD]
def sumS (s : ByteArray) : ByteArray := ⟨(hexA (blT (padS (blT s ivW (s.size / 64)).1 s.size) (blT s ivW (s.size / 64)).2 ((padS (blT s ivW (s.size / 64)).1 s.size).size / 64)).2 8).toArray⟩
theorem sum_ok (s : ByteArray) (hs : s.size ≤ 100000000) : Does Tryz.prog 47 [.c (.string s)] (.c (.string (sumS s))) := by
  refine Does.mk (fun _ => false) TT_ok Tryz.func47 rfl (by kernel_rfl) Tryz.ntmps47 rfl rfl fun E hT hE hN hR => ?_
  have hm := mixO hE
  (repeat (first | refine XK.n ?_ | refine XK.a ?_ | refine XK.b ?_))
  refine XK.loop (ι := Nat) (fun i => ST.of [(0, .c (.string s)), (3, .vptr 55 0 1 0 0), (4, .c (.string (blT s ivW i).1))] [(55, .vec 169 1 0 8 (rowW (blT s ivW i).2))] 1000 52 (fun _ => false))
    (fun i => 64 * i ≤ s.size) (fun i => (blT s ivW i).1.size) 0 (Nat.zero_le _) (Weak.of hN rfl rfl rfl frI ⟨⟨rfl, rfl, rfl⟩, rfl, fun j hj => row8 ivW j hj⟩) fun i hi => ?_
  have hsz := blT_size s ivW i hi
  (repeat (first | refine XK.n ?_ | refine XK.a ?_ | refine XK.b ?_)); refine XK.cond rfl (fun h1 => ?_) (fun h1 => ?_) <;> (try simp at h1)
  · have hst : blT s ivW (i + 1) = ((blT s ivW i).1.extract (Int.toNat 64) (blT s ivW i).1.size, mixF (blT s ivW i).2 ((blT s ivW i).1.extract 0 (Int.toNat 64))) := rfl
    have hsz' := blT_size s ivW (i + 1) (by omega)
    have hb : ((blT s ivW i).1.extract 0 (Int.toNat 64)).size = 64 := by
      rw [ByteArray.size_extract]; show min 64 _ - 0 = 64; omega
    rw [hst] at hsz'
    (repeat (first | refine XK.n ?_ | refine XK.a ?_ | refine XK.b ?_)); refine XK.drawn hm ?_; refine XD.goA hT rfl rfl rfl rfl ?_
    refine XD.callLA hE rfl rfl rfl rfl trivial rfl (mixed_ok (blT s ivW i).2 ((blT s ivW i).1.extract 0 (Int.toNat 64)) hb) rfl ?_
    refine XD.goA hT rfl rfl rfl rfl ?_; refine XD.fin (by kernel_rfl) ?_; (repeat (first | refine XK.n ?_ | refine XK.a ?_ | refine XK.b ?_))
    refine XK.inv ⟨i + 1, by omega, ?_, by rw [hst]; omega⟩
    rw [hst]
    exact Weak.of hN rfl rfl rfl frV ⟨⟨rfl, rfl, rfl⟩, rfl, fun j hj => row8 _ j hj⟩
  have hie : i = s.size / 64 := by omega
  have hlt : (blT s ivW i).1.size < 64 := by omega
  subst hie
  generalize hb0 : blT s ivW (s.size / 64) = b0 at *
  obtain ⟨r, h⟩ := b0
  dsimp only at *
  have hp := padS_size r hlt s.size
  (repeat (first | refine XK.n ?_ | refine XK.a ?_ | refine XK.b ?_)); refine XK.region ?_; refine XL.g ?_
  refine XL.callLA hE rfl rfl rfl rfl trivial rfl (padded_ok r hlt s.size hs) rfl ?_
  refine XL.g ?_; refine XL.fin ?_; (repeat (first | refine XK.n ?_ | refine XK.a ?_ | refine XK.b ?_))
  generalize hpd : padS r s.size = p at *
  refine XK.loop (ι := Nat) (fun i => ST.of [(3, .vptr 55 0 1 0 0), (4, .c (.string (blT p h i).1))] [(55, .vec 169 1 0 8 (rowW (blT p h i).2))] 1000 52 (fun _ => false))
    (fun i => 64 * i ≤ p.size) (fun i => (blT p h i).1.size) 0 (Nat.zero_le _) (Weak.of hN rfl rfl rfl frI frI) fun i hi => ?_
  have hsz := blT_size p h i hi
  (repeat (first | refine XK.n ?_ | refine XK.a ?_ | refine XK.b ?_)); refine XK.cond rfl (fun h1 => ?_) (fun h1 => ?_)
  · have hst : blT p h (i + 1) = ((blT p h i).1.extract (Int.toNat 64) (blT p h i).1.size, mixF (blT p h i).2 ((blT p h i).1.extract 0 (Int.toNat 64))) := rfl
    have hne : (blT p h i).1.size ≠ 0 := fun h0 => by
      have : (blT p h i).1 = ⟨#[]⟩ := by
        apply ByteArray.ext
        exact Array.eq_empty_of_size_eq_zero h0
      rw [this] at h1
      cases h1
    have hsz' := blT_size p h (i + 1) (by omega)
    have hb : ((blT p h i).1.extract 0 (Int.toNat 64)).size = 64 := by
      rw [ByteArray.size_extract]; show min 64 _ - 0 = 64; omega
    rw [hst] at hsz'
    (repeat (first | refine XK.n ?_ | refine XK.a ?_ | refine XK.b ?_)); refine XK.drawn hm ?_; refine XD.goA hT rfl rfl rfl rfl ?_
    refine XD.callLA hE rfl rfl rfl rfl trivial rfl (mixed_ok (blT p h i).2 ((blT p h i).1.extract 0 (Int.toNat 64)) hb) rfl ?_
    refine XD.goA hT rfl rfl rfl rfl ?_; refine XD.fin (by kernel_rfl) ?_; (repeat (first | refine XK.n ?_ | refine XK.a ?_ | refine XK.b ?_))
    refine XK.inv ⟨i + 1, by omega, ?_, by rw [hst]; omega⟩
    rw [hst]
    exact Weak.of hN rfl rfl rfl frV ⟨⟨rfl, rfl, rfl⟩, rfl, fun j hj => row8 _ j hj⟩
  have he : (blT p h i).1 = ⟨#[]⟩ := by simpa [Go.MapKept.bytes_beq] using h1
  have hz : (blT p h i).1.size = 0 := by rw [he]; rfl
  have hie : i = p.size / 64 := by omega
  subst hie
  generalize hb1 : blT p h (p.size / 64) = b1 at *
  obtain ⟨r2, g⟩ := b1
  dsimp only at *
  (repeat (first | refine XK.n ?_ | refine XK.a ?_ | refine XK.b ?_))
  refine XK.loop (ι := Nat) (fun i => ST.of [(5, .vec 1084 0), (33, w8V g), (34, .c (.int .i64 i))] [(1084, bO 0 (hexA g i))] 2000 52 (fun _ => false))
    (fun i => i ≤ 8) (fun i => 8 - i) 0 (Nat.zero_le _) (Weak.of hN rfl rfl rfl frI ⟨⟨rfl, rfl, rfl⟩, rfl, fun j hj => absurd hj (Nat.not_lt_zero _)⟩) fun i hi => ?_
  (repeat (first | refine XK.n ?_ | refine XK.a ?_ | refine XK.b ?_)); refine XK.cond rfl (fun h2 => ?_) (fun h2 => ?_) <;> (try simp at h2)
  · have fw : [AV.c (.int .u32 (g 0)), .c (.int .u32 (g 1)), .c (.int .u32 (g 2)), .c (.int .u32 (g 3)), .c (.int .u32 (g 4)), .c (.int .u32 (g 5)), .c (.int .u32 (g 6)), .c (.int .u32 (g 7))].getD (i : Int).toNat .junk = .c (.int .u32 (g i)) := by
      have : i < 8 := by omega
      rcases i with _ | _ | _ | _ | _ | _ | _ | _ | i <;> first | rfl | (exfalso; omega)
    have hst : hexA g (i + 1) = hexA g i ++ hexI (g i) 8 := rfl
    have hla := hexA_len g i
    refine XK.norm rfl rfl ?_
    refine XK.region ?_
    refine XL.indexA hT rfl rfl rfl rfl rfl rfl rfl rfl rfl rfl rfl (by omega) (by simp) ?_
    rw [fw]
    refine XL.g ?_
    refine XL.fin ?_
    (repeat (first | refine XK.n ?_ | refine XK.a ?_ | refine XK.b ?_))
    refine XK.loop (ι := Nat) (fun k => ST.of [(5, .vec 1084 0), (7, .c (.int .u32 (g i))), (8, .c (.int .i64 (28 - 4 * (k : Int)))), (33, w8V g), (34, .c (.int .i64 i))] [(1084, bO 0 (hexA g i ++ hexI (g i) k))] 3000 52 (fun _ => false))
      (fun k => k ≤ 8) (fun k => 8 - k) 0 (Nat.zero_le _) (by rw [show hexA g i ++ hexI (g i) 0 = hexA g i from List.append_nil _]; exact Weak.of hN rfl rfl rfl frI frI) fun k hk => ?_
    (repeat (first | refine XK.n ?_ | refine XK.a ?_ | refine XK.b ?_)); refine XK.cond rfl (fun h3 => ?_) (fun h3 => ?_) <;> (try simp at h3)
    · have hd := digI_in (g i) k
      have hlk := hexI_len (g i) k
      have hsk : hexA g i ++ hexI (g i) (k + 1) = hexA g i ++ hexI (g i) k ++ [digU (g i) k] := (List.append_assoc _ _ _).symm
      have hll : (hexA g i ++ hexI (g i) k).length ≤ 64 := by rw [List.length_append]; omega
      unfold digI at hd
      generalize hexA g i ++ hexI (g i) k = L at *
      unfold bO
      refine XK.norm rfl rfl ?_
      refine XK.rgnA hT rfl rfl rfl (ho := ⟨by omega, hd, by omega, by show (L.length + 1) * 1 ≤ _; omega, fun i hi => by cases Nat.lt_one_iff.1 hi; rfl⟩) ?_
      (repeat (first | refine XK.n ?_ | refine XK.a ?_ | refine XK.b ?_))
      refine XK.inv ⟨k + 1, by omega, ?_, by omega⟩
      rw [hsk]
      exact Weak.trans (Weak.stamp (k := 1084) (t := 0) hN rfl rfl) (Weak.of hN rfl rfl rfl frV ⟨⟨rfl, rfl, rfl⟩, by simp, fun j hj => snocE L (digU (g i) k) _ rfl j (by rw [List.length_append]; exact hj)⟩)
    · have hke : k = 8 := by omega
      subst hke
      rw [← hst]
      (repeat (first | refine XK.n ?_ | refine XK.a ?_ | refine XK.b ?_))
      exact XK.inv ⟨i + 1, by omega, Weak.of hN rfl rfl rfl frV frI, by omega⟩
  have hie : i = 8 := by omega
  subst hie
  refine XK.weak (Weak.frozen (k := 1084) hN rfl rfl) ?_
  (repeat (first | refine XK.n ?_ | refine XK.a ?_ | refine XK.b ?_))
  (first | refine XK.o ?_ | refine XK.p ?_)
  rw [bytesS_row]
  unfold sumS
  rw [hb0]
  dsimp only
  rw [hpd, hb1]
end
end Go.Proofs.YtlcfoelfcnhenaaGreatDoor
