import Derived.Test.YtlhmgphgnedlkaaGreatZz13
import Derived.Test.YtlhmgphgnedlkaaGreatZz14
import Derived.Shelf.SlSortCmp.NoneTotal
import Derived.Test.YtlhmgphgnedlkaaGreatZz12
import Derived.Test.YtlhmgphgnedlkaaGreatZz15
set_option linter.unusedSimpArgs false
set_option linter.unusedVariables false
section
/- The order of amendments, in plain Lean. -/
namespace Go.Proofs.YtlhmgphgnedlkaaGreat
open Go.Eng
set_option maxRecDepth 10000
section
variable {α : Type}
def insS (le : α → α → Bool) (x : α) : List α → List α
  | [] => [x]
  | y :: l => if le x y = true then x :: y :: l else y :: insS le x l
def sortS (le : α → α → Bool) : List α → List α
  | [] => []
  | x :: l => insS le x (sortS le l)
theorem insS_perm (le : α → α → Bool) (x : α) : ∀ l, (insS le x l).Perm (x :: l)
  | [] => List.Perm.refl _
  | y :: l => by
    unfold insS
    split
    · exact List.Perm.refl _
    · exact ((insS_perm le x l).cons y).trans (List.Perm.swap x y l)
theorem sortS_perm (le : α → α → Bool) : ∀ l, (sortS le l).Perm l
  | [] => List.Perm.refl _
  | x :: l => (insS_perm le x _).trans ((sortS_perm le l).cons x)
theorem insS_sorted {le : α → α → Bool} (ht : ∀ a b, le a b = true ∨ le b a = true) (htr : ∀ a b c, le a b = true → le b c = true → le a c = true) (x : α) :
    ∀ l, l.Pairwise (fun a b => le a b = true) → (insS le x l).Pairwise (fun a b => le a b = true)
  | [], _ => by simp [insS]
  | y :: l, h => by
    obtain ⟨h1, h2⟩ := List.pairwise_cons.1 h
    unfold insS
    split
    · rename_i hxy
      exact List.pairwise_cons.2 ⟨fun z hz => by
        rcases List.mem_cons.1 hz with rfl | hz
        · exact hxy
        · exact htr _ _ _ hxy (h1 z hz), h⟩
    · rename_i hxy
      refine List.pairwise_cons.2 ⟨fun z hz => ?_, insS_sorted ht htr x l h2⟩
      rcases List.mem_cons.1 ((insS_perm le x l).mem_iff.1 hz) with rfl | hz
      · rcases ht y z with h3 | h3
        · exact h3
        · exact absurd h3 hxy
      · exact h1 z hz
theorem sortS_sorted {le : α → α → Bool} (ht : ∀ a b, le a b = true ∨ le b a = true) (htr : ∀ a b c, le a b = true → le b c = true → le a c = true) :
    ∀ l, (sortS le l).Pairwise (fun a b => le a b = true)
  | [] => List.Pairwise.nil
  | x :: l => insS_sorted ht htr x _ (sortS_sorted ht htr l)
theorem insS_map {β : Type} {le : α → α → Bool} {le' : β → β → Bool} (g : α → β) (x : α) : ∀ l, (∀ y ∈ l, le x y = le' (g x) (g y)) → (insS le x l).map g = insS le' (g x) (l.map g)
  | [], _ => rfl
  | y :: l, h => by
    unfold insS
    rw [h y (.head _)]
    show _ = if le' (g x) (g y) = true then _ else _
    split
    · rfl
    · rw [List.map_cons, insS_map g x l fun z hz => h z (.tail _ hz)]
theorem sorted_one {le : α → α → Bool} {l l' : List α} (hp : l.Perm l') (ha : ∀ a ∈ l, ∀ b ∈ l, le a b = true → le b a = true → a = b) (h : l.Pairwise (fun a b => le a b = true)) (h' : l'.Pairwise (fun a b => le a b = true)) : l = l' :=
  List.Perm.eq_of_pairwise (le := fun a b => le a b = true) (fun a b h1 h2 h3 h4 => ha a h1 b (hp.mem_iff.2 h2) h3 h4) h h' hp
end
def dnLe (a b : Am) : Bool := decide (a.day < b.day) || (a.day == b.day && decide (a.number ≤ b.number))
def amLe (l : List Am) (i j : Nat) : Bool :=
  decide ((l.getD i default).day < (l.getD j default).day) || ((l.getD i default).day == (l.getD j default).day && (decide ((l.getD i default).number < (l.getD j default).number) || ((l.getD i default).number == (l.getD j default).number && decide (i ≤ j))))
def ordL (l : List Am) : List Nat := sortS (amLe l) (List.range l.length)
theorem dnLe_tot (a b : Am) : dnLe a b = true ∨ dnLe b a = true := by
  simp only [dnLe, Bool.or_eq_true, Bool.and_eq_true, decide_eq_true_eq, beq_iff_eq]; omega
theorem dnLe_tr (a b c : Am) : dnLe a b = true → dnLe b c = true → dnLe a c = true := by
  simp only [dnLe, Bool.or_eq_true, Bool.and_eq_true, decide_eq_true_eq, beq_iff_eq]; omega
theorem amLe_tot (l : List Am) (i j : Nat) : amLe l i j = true ∨ amLe l j i = true := by
  simp only [amLe, Bool.or_eq_true, Bool.and_eq_true, decide_eq_true_eq, beq_iff_eq]; omega
theorem amLe_tr (l : List Am) (i j k : Nat) : amLe l i j = true → amLe l j k = true → amLe l i k = true := by
  simp only [amLe, Bool.or_eq_true, Bool.and_eq_true, decide_eq_true_eq, beq_iff_eq]; omega
theorem amLe_as (l : List Am) (i j : Nat) : amLe l i j = true → amLe l j i = true → i = j := by
  simp only [amLe, Bool.or_eq_true, Bool.and_eq_true, decide_eq_true_eq, beq_iff_eq]; omega
theorem ordL_perm (l : List Am) : (ordL l).Perm (List.range l.length) := sortS_perm _ _
theorem ordL_sorted (l : List Am) : (ordL l).Pairwise (fun i j => amLe l i j = true) := sortS_sorted (amLe_tot l) (amLe_tr l) _
theorem ordL_len (l : List Am) : (ordL l).length = l.length := by rw [(ordL_perm l).length_eq, List.length_range]
theorem ordL_lt {l : List Am} {i : Nat} (h : i ∈ ordL l) : i < l.length := List.mem_range.1 ((ordL_perm l).mem_iff.1 h)
theorem ordL_one {l : List Am} {o : List Nat} (hp : o.Perm (List.range l.length)) (hs : o.Pairwise (fun i j => amLe l i j = true)) : o = ordL l :=
  sorted_one (hp.trans (ordL_perm l).symm) (fun a _ b _ h1 h2 => amLe_as l a b h1 h2) hs (ordL_sorted l)
theorem sortS_map_range (l : List Am) : ∀ (n k : Nat), k + n = l.length → (sortS (amLe l) (List.range' k n)).map (fun i => l.getD i default) = sortS dnLe (l.drop k)
  | 0, k, h => by rw [List.drop_eq_nil_of_le (by omega)]; rfl
  | n + 1, k, h => by
    have hk : k < l.length := by omega
    rw [List.range'_succ, List.drop_eq_getElem_cons hk]
    show (insS (amLe l) k (sortS (amLe l) (List.range' (k + 1) n))).map _ = insS dnLe l[k] (sortS dnLe (l.drop (k + 1)))
    rw [insS_map (le' := dnLe) (fun i => l.getD i default) k _ fun y hy => ?_, sortS_map_range l n (k + 1) (by omega)]
    · congr 1
      simp [List.getD, hk]
    · have hy := (sortS_perm (amLe l) _).mem_iff.1 hy
      rw [List.mem_range'_1] at hy
      simp only [amLe, dnLe]
      have e1 : ∀ (a b : Int), (decide (a < b) || (a == b && decide (k ≤ y))) = decide (a ≤ b) := fun a b => by
        rw [Bool.eq_iff_iff]; simp only [Bool.or_eq_true, Bool.and_eq_true, decide_eq_true_eq, beq_iff_eq]; omega
      rw [e1]
def seqA (l : List Am) : List Am := (ordL l).map (fun i => l.getD i default)
theorem seqA_eq (l : List Am) : seqA l = sortS dnLe l := by
  have := sortS_map_range l l.length 0 (by omega)
  rw [List.drop_zero, ← List.range_eq_range'] at this
  exact this
theorem seqA_perm (l : List Am) : (seqA l).Perm l := by rw [seqA_eq]; exact sortS_perm _ _
theorem seqA_sorted (l : List Am) : (seqA l).Pairwise (fun a b => dnLe a b = true) := by rw [seqA_eq]; exact sortS_sorted dnLe_tot dnLe_tr _
end Go.Proofs.YtlhmgphgnedlkaaGreat
end
section
/- slices.SortFunc over amendments with their places: the library's functions as they lie in the program. -/
namespace Go.Proofs.YtlhmgphgnedlkaaGreat
open Go.Eng Go.Shelf Go.Sort Go.RowKit
set_option maxRecDepth 10000
def sortRen : Go.Shelf.Ren := ⟨fun | 6 => 78 | 14 => 118 | 15 => 119 | 20 => 138 | 21 => 139 | 22 => 140 | 23 => 141 | 24 => 142 | 25 => 143 | 26 => 144 | 27 => 145 | 28 => 146 | 29 => 147 | 46 => 157 | 47 => 158 | 48 => 159 | 49 => 160 | 50 => 161 | 57 => 166 | n => n, fun | 0 => 0 | 3 => 3 | 4 => 4 | 5 => 5 | 9 => 9 | 22 => 150 | 24 => 152 | 25 => 154 | 39 => 189 | 45 => 211 | 46 => 212 | 50 => 157 | 53 => 218 | 55 => 208 | 66 => 226 | 70 => 230 | 76 => 235 | 77 => 236 | n => n, fun n => n⟩
theorem sortLaid : SlLaysF0.n6 Tryz.prog sortRen where
  mixed := by kernel_rfl
  f6 := ⟨Tryz.f78.name, by decide +kernel, Tryz.func78.trans (congrArg some (by kernel_rfl))⟩
  f14 := ⟨Tryz.f118.name, by decide +kernel, Tryz.func118.trans (congrArg some (by kernel_rfl))⟩
  f15 := Tryz.func119.trans (congrArg some (by kernel_rfl))
  f20 := ⟨Tryz.f138.name, by decide +kernel, Tryz.func138.trans (congrArg some (by kernel_rfl))⟩
  f21 := ⟨Tryz.f139.name, by decide +kernel, Tryz.func139.trans (congrArg some (by kernel_rfl))⟩
  f22 := ⟨Tryz.f140.name, by decide +kernel, Tryz.func140.trans (congrArg some (by kernel_rfl))⟩
  f23 := ⟨Tryz.f141.name, by decide +kernel, Tryz.func141.trans (congrArg some (by kernel_rfl))⟩
  f24 := ⟨Tryz.f142.name, by decide +kernel, Tryz.func142.trans (congrArg some (by kernel_rfl))⟩
  f25 := ⟨Tryz.f143.name, by decide +kernel, Tryz.func143.trans (congrArg some (by kernel_rfl))⟩
  f26 := ⟨Tryz.f144.name, by decide +kernel, Tryz.func144.trans (congrArg some (by kernel_rfl))⟩
  f27 := ⟨Tryz.f145.name, by decide +kernel, Tryz.func145.trans (congrArg some (by kernel_rfl))⟩
  f28 := Tryz.func146.trans (congrArg some (by kernel_rfl))
  f29 := Tryz.func147.trans (congrArg some (by kernel_rfl))
  f46 := ⟨Tryz.f157.name, by decide +kernel, Tryz.func157.trans (congrArg some (by kernel_rfl))⟩
  f47 := Tryz.func158.trans (congrArg some (by kernel_rfl))
  f48 := Tryz.func159.trans (congrArg some (by kernel_rfl))
  f49 := ⟨Tryz.f160.name, by decide +kernel, Tryz.func160.trans (congrArg some (by kernel_rfl))⟩
  f50 := ⟨Tryz.f161.name, by decide +kernel, Tryz.func161.trans (congrArg some (by kernel_rfl))⟩
  f57 := ⟨Tryz.f166.name, by decide +kernel, Tryz.func166.trans (congrArg some (by kernel_rfl))⟩
  t0 := Tryz.underlying0
  a0 := Tryz.isAgg0
  z0 := Tryz.sizeOf0
  v0 := Tryz.zeroValue0
  t3 := Tryz.underlying3
  a3 := Tryz.isAgg3
  z3 := Tryz.sizeOf3
  v3 := Tryz.zeroValue3
  t4 := Tryz.underlying4
  a4 := Tryz.isAgg4
  z4 := Tryz.sizeOf4
  v4 := Tryz.zeroValue4
  t5 := Tryz.underlying5
  a5 := Tryz.isAgg5
  z5 := Tryz.sizeOf5
  v5 := Tryz.zeroValue5
  t9 := Tryz.underlying9
  a9 := Tryz.isAgg9
  z9 := Tryz.sizeOf9
  v9 := Tryz.zeroValue9
  t22 := Tryz.underlying150
  a22 := Tryz.isAgg150
  z22 := Tryz.sizeOf150
  v22 := Tryz.zeroValue150
  t25 := Tryz.underlying154
  a25 := Tryz.isAgg154
  z25 := Tryz.sizeOf154
  v25 := Tryz.zeroValue154
  t39 := Tryz.underlying189
  a39 := Tryz.isAgg189
  z39 := Tryz.sizeOf189
  v39 := Tryz.zeroValue189
  t45 := Tryz.underlying211
  a45 := Tryz.isAgg211
  z45 := Tryz.sizeOf211
  v45 := Tryz.zeroValue211
  t46 := Tryz.underlying212
  a46 := Tryz.isAgg212
  z46 := Tryz.sizeOf212
  v46 := Tryz.zeroValue212
  t50 := Tryz.underlying157
  a50 := Tryz.isAgg157
  z50 := Tryz.sizeOf157
  v50 := Tryz.zeroValue157
  t53 := Tryz.underlying218
  a53 := Tryz.isAgg218
  z53 := Tryz.sizeOf218
  v53 := Tryz.zeroValue218
  t55 := Tryz.underlying208
  a55 := Tryz.isAgg208
  z55 := Tryz.sizeOf208
  v55 := Tryz.zeroValue208
  t66 := Tryz.underlying226
  a66 := Tryz.isAgg226
  z66 := Tryz.sizeOf226
  v66 := Tryz.zeroValue226
  t70 := Tryz.underlying230
  a70 := Tryz.isAgg230
  z70 := Tryz.sizeOf230
  v70 := Tryz.zeroValue230
  t76 := Tryz.underlying235
  a76 := Tryz.isAgg235
  z76 := Tryz.sizeOf235
  v76 := Tryz.zeroValue235
  t77 := Tryz.underlying236
  a77 := Tryz.isAgg236
  z77 := Tryz.sizeOf236
  v77 := Tryz.zeroValue236
end Go.Proofs.YtlhmgphgnedlkaaGreat
end
section
/- The library's sort at a row of the call's own: a contract. -/
namespace Go.Eng
open Go.Shelf Go.Sort Go.RowKit Go.Proofs
theorem oneCellR {w : World} {G : Nat → Prop} {x : AV} {v : Value} (ho : oneAV (fun _ => none) x = true) (hr : R w G Rho.none x v) : v.oneCell' = true := by
  cases x with
  | c u => rw [hr.c_inv]; exact ho
  | ptr k off => obtain ⟨_, _, rfl⟩ := hr.ptr_inv; rfl
  | mp k => cases hr; rfl
  | rptr l => obtain ⟨_, rfl, _⟩ := hr.rptr_inv; rfl
  | rs sz n f => obtain ⟨_, _, rfl, _⟩ := hr.rs_inv; rfl
  | fn f l l' => cases hr; rfl
  | vec k s => simp [oneAV, live] at ho
  | vptr k s sz i off => simp [oneAV, live] at ho
  | junk => simp [oneAV] at ho
  | agg l => simp [oneAV] at ho
  | tup l => simp [oneAV] at ho
  | gd g a => simp [oneAV] at ho
section
variable {α : Type} [Inhabited α] {enc : α → List Value} {k : Nat} {w : World} {blk m : Nat} {d : Array α} {os : Array Obj}
theorem sw_size : (sortWorldK enc k w blk 0 m d os).heap.size = w.heap.size + os.size := by
  simp [sortWorldK, grow, putRowK, putRow, mapBlock, Sort.ahead]
theorem sw_other {b : Nat} (hb : b < w.heap.size) (hne : b ≠ blk) : (sortWorldK enc k w blk 0 m d os).heap[b]? = w.heap[b]? := by
  have h1 : b < (putRowK enc k (Sort.ahead w m) blk 0 d).heap.size := by simpa [putRowK, putRow, mapBlock, Sort.ahead] using hb
  show ((putRowK enc k (Sort.ahead w m) blk 0 d).heap ++ os)[b]? = _
  rw [Array.getElem?_append_left h1]
  simp [putRowK, putRow, mapBlock, Sort.ahead, Array.getElem?_modify, Ne.symm hne]
theorem sw_row {cur : Array Value} {e : TypeId} {fr : Nat × Nat} (hb : blk < w.heap.size) (h : w.heap[blk]? = some (.cells cur e fr)) : (sortWorldK enc k w blk 0 m d os).heap[blk]? = some (.cells (putCells id 0 (flatK enc k d) cur) e fr) := by
  have h1 : blk < (putRowK enc k (Sort.ahead w m) blk 0 d).heap.size := by simpa [putRowK, putRow, mapBlock, Sort.ahead] using hb
  show ((putRowK enc k (Sort.ahead w m) blk 0 d).heap ++ os)[blk]? = _
  rw [Array.getElem?_append_left h1]
  simp [putRowK, putRow, mapBlock, Sort.ahead, Array.getElem?_modify, h, onCells]
end
theorem Keep.grow {W w' : World} (h : Keep (fun _ => False) W w') : ∃ q os', w' = Sort.grow (W.drewN q) os' := by
  refine ⟨w'.drawn - W.drawn, w'.heap.extract W.heap.size w'.heap.size, ?_⟩
  have hh : w'.heap = W.heap ++ w'.heap.extract W.heap.size w'.heap.size := by
    refine Array.ext_getElem? fun i => ?_
    by_cases hi : i < W.heap.size
    · rw [Array.getElem?_append_left hi, h.block i hi id]
    · rw [Array.getElem?_append_right (by omega)]
      have hs := h.size
      by_cases hi2 : i < w'.heap.size
      · rw [Array.getElem?_eq_getElem hi2, Array.getElem?_eq_getElem (by simp; omega), Array.getElem_extract]
        congr 2
        omega
      · rw [Array.getElem?_eq_none (by omega), Array.getElem?_eq_none (by simp; omega)]
  have hd := h.drawn
  obtain ⟨heap, tape, drawn, os, output⟩ := w'
  obtain ⟨heap2, tape2, drawn2, os2, output2⟩ := W
  have e1 := h.os; have e2 := h.tape; have e3 := h.output
  simp only at e1 e2 e3 hh hd
  subst e1 e2 e3
  simp only [Sort.grow, World.drewN]
  congr 1
  omega
theorem sortFunc_doesM {P : Program} {ρ : Ren} (L : SlLaysF0.n6 P ρ) (hF : FnOk P (ρ.f 6)) (k : Nat) (hk0 : 0 < k) (aE : ∀ w, (isAgg (ρ.t 24)).run P w = .ok true w) (zE : ∀ w, (Go.sizeOf (ρ.t 24)).run P w = .ok k w) {e : TypeId} {n : Nat} (hn1 : n ≤ 1000000) (f : Nat → List AV)
    (hone : ∀ i, i < n → ∀ x ∈ f i, oneAV (fun _ => none) x = true) (g : Nat) (eg : ∀ args w, (callFunc g args).run P w = .ok (.enter g args) w) (cf : Fin n → Fin n → Int) (hO : SWO (ltOf cf)) (hT : ∀ x y, (ltOf cf) x y = false → (ltOf cf) y x = false → x = y)
    (hdoes : ∀ i j : Fin n, Does P g [.agg (f i), .agg (f j)] (.c (.int .i64 (cf i j)))) (σ : Nat → Nat) (hσ : ∀ (i : Nat) (x : Fin n), ((List.finRange n).mergeSort fun x y => !(ltOf cf) y x)[i]? = some x → σ i = x.val) :
    DoesM P (ρ.f 6) [.vec 0 0, .fn (.func g) [] []] [.vec e k 0 n f] (.tup []) [.vec e k 0 n (fun i => f (σ i))] := by
  refine ⟨hF, Nat.le_refl _, fun w G r vs hs hG hm hr => ?_⟩
  obtain ⟨hv, xs, hr0, hown, hl, hcell⟩ := hm.ob 0 (.vec e k 0 n f) rfl
  have hv0 : vs.getD 0 undef = hv := (hr 0 _ rfl).vec_inv hr0
  have hv1 : vs.getD 1 undef = .func (.func g) #[] #[] := by
    have h1 := hr 1 _ rfl
    generalize vs.getD 1 undef = v at h1
    cases h1 with
    | fn hs1 _ hs2 _ =>
      rw [Array.eq_empty_of_size_eq_zero hs1, Array.eq_empty_of_size_eq_zero hs2]
  have hvs : vs = #[hv, .func (.func g) #[] #[]] := by
    refine Array.ext (by rw [hs]; rfl) fun i h1 h2 => ?_
    have hsz : vs.size = 2 := hs
    have hi : i = 0 ∨ i = 1 := by omega
    rcases hi with rfl | rfl
    · rw [← hv0]; simp [h1]
    · rw [show (#[hv, Value.func (.func g) #[] #[]])[1] = .func (.func g) #[] #[] from rfl, ← hv1]; simp [h1]
  subst hvs
  have hob : ∀ k' o, obL [Ob.vec e k 0 n (fun i => f (σ i))] k' = some o → k' = 0 ∧ o = .vec e k 0 n (fun i => f (σ i)) := by
    intro k' o ho
    cases k' with
    | zero => exact ⟨rfl, by simpa [obL] using ho.symm⟩
    | succ k' => simp [obL] at ho
  have hno : ∀ k', obL [Ob.vec e k 0 n (fun i => f (σ i))] k' = none → obL [Ob.vec e k 0 n f] k' = none := by
    intro k' ho
    cases k' with
    | zero => simp [obL] at ho
    | succ k' => simp [obL]
  by_cases hn : n = 0
  · subst hn
    obtain ⟨p, cap, rfl⟩ : ∃ p cap, hv = .slice p 0 cap := by
      rcases hown.2 with ⟨rfl, _⟩ | ⟨g', cap, _, rfl, _⟩ <;> exact ⟨_, _, rfl⟩
    refine (AnyF.slices_SortFunc_none { L with } p cap _ w).mono ?_
    rintro e' w' ⟨rfl, rfl⟩
    refine ⟨_, r, rfl, ⟨hm.keep, fun k' o ho => ?_, fun k' ho => hm.no k' (hno k' ho), hm.dis, hm.own, hm.le⟩, .tup rfl (fun i a h => by cases h)⟩
    obtain ⟨rfl, rfl⟩ := hob k' o ho
    exact ⟨_, xs, hr0, hown, fun i hi => absurd hi (Nat.not_lt_zero _), fun i j x hi => absurd hi (Nat.not_lt_zero _)⟩
  have hn0 : 0 < n := Nat.pos_of_ne_zero hn
  obtain ⟨blk, cap, cur, rfl, _, hb, hcap, hmax, hcs, htake⟩ : ∃ blk cap cur, hv = .slice (some ⟨blk, 0, none⟩) n cap ∧ 0 ≤ blk ∧ w.heap[blk]? = some (.cells cur e (0, 0)) ∧ n ≤ cap ∧ cap ≤ maxLen ∧ cur.size = cap * k ∧ cur.toList.take (n * k) = xs := by
    rcases hown.2 with ⟨_, h⟩ | h
    · exact absurd h hn
    · exact h
  have hblk : blk < w.heap.size := (Array.getElem?_eq_some_iff.1 hb).1
  have hxl : xs.length = n * k := hown.1
  let enc : Fin n → List Value := fun x => (xs.drop (x.val * k)).take k
  have hmul : ∀ x : Fin n, x.val * k + k ≤ n * k := fun x => by
    have := Nat.mul_le_mul_right k (Nat.succ_le_of_lt x.isLt)
    rwa [Nat.succ_mul] at this
  have henc : ∀ x, (enc x).length = k := fun x => by
    have := hmul x
    simp only [enc, List.length_take, List.length_drop, hxl]
    omega
  have hget : ∀ (x : Fin n) (j : Nat), j < k → (enc x)[j]? = xs[x.val * k + j]? := fun x j hj => by
    simp only [enc]
    rw [List.getElem?_take, if_pos hj, List.getElem?_drop]
  have hgood : ∀ b, (Env.at_ P w G 1 r).good w r b → b < w.heap.size ∧ b ≠ blk := fun b ⟨_, h1, h2⟩ => ⟨h1, fun e => h2 0 _ hr0 (by subst e; rfl)⟩
  have hagg : ∀ x : Fin n, R w ((Env.at_ P w G 1 r).good w r) Rho.none (.agg (f x)) (.agg (enc x).toArray) := fun x => by
    refine .agg (by simp [henc, hl x.val x.isLt]) fun j a ha => ?_
    have hj : j < k := by rw [← hl x.val x.isLt]; exact (List.getElem?_eq_some_iff.1 ha).1
    have h1 := hcell x.val j a x.isLt ha
    have h2 := hmul x
    have h3 : (enc x).toArray.getD j undef = xs.getD (x.val * k + j) undef := by
      have hlt : j < (enc x).length := by rw [henc]; exact hj
      have hlt2 : x.val * k + j < xs.length := by rw [hxl]; omega
      have e1 : (enc x)[j]? = some (enc x)[j] := List.getElem?_eq_getElem hlt
      have e2 : xs[x.val * k + j]? = some xs[x.val * k + j] := List.getElem?_eq_getElem hlt2
      have e3 := hget x j hj
      rw [e1, e2] at e3
      injection e3 with e3
      have e4 : (enc x).toArray.getD j undef = (enc x)[j] := by simp [hlt]
      rw [e4, e3, List.getD_eq_getElem?_getD, e2]
      rfl
    rw [h3]
    exact h1
  have h1 : ∀ x, ∀ v ∈ enc x, v.oneCell' = true := fun x v hv => by
    obtain ⟨j, hj, rfl⟩ := List.getElem_of_mem hv
    have hj' : j < k := by rw [← henc x]; exact hj
    have hlj : j < (f x).length := by rw [hl x.val x.isLt]; exact hj'
    obtain ⟨cs, hcs', hsz, hrr⟩ := (hagg x).agg_inv
    injection hcs' with hcs'
    have := hrr j _ (List.getElem?_eq_getElem hlj)
    rw [← hcs'] at this
    have h2 : (enc x).toArray.getD j undef = (enc x)[j] := by simp [hj]
    rw [h2] at this
    exact oneCellR (hone x.val x.isLt _ (List.getElem_mem hlj)) this
  haveI : Inhabited (Fin n) := ⟨⟨0, hn0⟩⟩
  let d : Array (Fin n) := (List.finRange n).toArray
  have hd : d.size = n := by simp [d]
  have hdi : ∀ i (hi : i < n), d[i]! = ⟨i, hi⟩ := fun i hi => by
    rw [getElem!_pos d i (by rw [hd]; exact hi)]
    simp [d]
  have hcmp : CmpLays P g #[] enc k cf blk 0 d.size w := by
    intro m os dk hdk x y
    have hR : ∀ z : Fin n, R (sortWorldK enc k w blk 0 m dk os) ((Env.at_ P w G 1 r).good w r) Rho.none (.agg (f z)) (.agg (enc z).toArray) := fun z =>
      (hagg z).tr (fun b hb => ⟨hb, sw_other (hgood b hb).1 (hgood b hb).2⟩) _ (Le.none _)
    have := (hdoes x y).2 (sortWorldK enc k w blk 0 m dk os) ((Env.at_ P w G 1 r).good w r) #[.agg (enc x).toArray, .agg (enc y).toArray] rfl (fun b hb => by rw [sw_size]; have := (hgood b hb).1; omega) (fun i a ha => by
      match i, ha with
      | 0, ha => injection ha with ha; subst ha; exact hR x
      | 1, ha => injection ha with ha; subst ha; exact hR y)
    refine this.mono ?_
    rintro e' w' ⟨v, rfl, hk, hv⟩
    exact ⟨by rw [hv.c_inv], hk.grow⟩
  have hH : HoldsK enc k w blk 0 d := by
    intro t ht
    have ht' : t < n * k := by simpa [hd] using ht
    have hdiv : t / k < n := Nat.div_lt_of_lt_mul (by rw [Nat.mul_comm]; exact ht')
    have hmod : t % k < k := Nat.mod_lt _ hk0
    have heq : t / k * k + t % k = t := by rw [Nat.mul_comm]; exact Nat.div_add_mod t k
    have hle : n * k ≤ cap * k := Nat.mul_le_mul_right k hcap
    constructor
    · rw [get_flatK enc k d t (by rw [hd]; exact ht'), hdi _ hdiv]
      have h2 : (enc ⟨t / k, hdiv⟩)[t % k]? = xs[t]? := by rw [hget _ _ hmod]; simp only [heq]
      have h3 : xs[t]? = cur[t]? := by
        rw [← htake, List.getElem?_take, if_pos ht', Array.getElem?_toList]
      have h4 : t < (enc ⟨t / k, hdiv⟩).length ∨ True := .inr trivial
      have h5 : (enc ⟨t / k, hdiv⟩)[t % k]! = (enc ⟨t / k, hdiv⟩)[t % k]'(by rw [henc]; exact hmod) := getElem!_pos _ _ _
      rw [h5]
      show World.cell? w ⟨blk, 0 + t, none⟩ = some _
      simp only [World.cell?, hb]
      rw [Nat.zero_add]
      rw [List.getElem?_eq_getElem (by rw [henc]; exact hmod)] at h2
      show cur[t]? = _
      rw [← h3, ← h2]
      rfl
    · simp [World.frozen?, hb]
  have hcon := AnyQ.slices_SortFunc_total L k aE zE enc henc h1 cf hO g #[] blk 0 cap d w eg hcmp hH hblk (by rw [hd]; omega) hT
  rw [hd] at hcon
  refine hcon.mono ?_
  have hdl : d.toList = List.finRange n := by simp [d]
  rw [hdl]
  have hsl : ((List.finRange n).mergeSort fun x y => !(ltOf cf) y x).length = n := by rw [List.length_mergeSort, List.length_finRange]
  generalize (List.finRange n).mergeSort (fun x y => !(ltOf cf) y x) = srt at hσ hsl ⊢
  rintro e' w' ⟨rfl, m, os, rfl⟩
  have hkeep : ∀ b, b < w.heap.size → b ≠ blk → (sortWorldK enc k w blk 0 m srt.toArray os).heap[b]? = w.heap[b]? := fun b h1 h2 => sw_other h1 h2
  have hgd : ∀ b, (Env.at_ P w G 1 r).good w r b → (Env.at_ P w G 1 r).good (sortWorldK enc k w blk 0 m srt.toArray os) r b ∧ (sortWorldK enc k w blk 0 m srt.toArray os).heap[b]? = w.heap[b]? := fun b hb => by
    obtain ⟨q1, q2⟩ := hgood b hb
    exact ⟨⟨hb.1, by rw [sw_size]; omega, hb.2.2⟩, hkeep b q1 q2⟩
  refine ⟨_, r, rfl, ⟨⟨rfl, rfl, rfl, by rw [sw_size]; exact Nat.le_add_right _ _, fun b h1 h2 => hkeep b h1 fun e => h2 ⟨0, _, hr0, by subst e; rfl⟩, Nat.le_add_right _ _⟩, fun k' o ho => ?_, fun k' ho => hm.no k' (hno k' ho), hm.dis, hm.own, hm.le⟩, .tup rfl (fun i a h => by cases h)⟩
  obtain ⟨rfl, rfl⟩ := hob k' o ho
  have hrow := sw_row (enc := enc) (k := k) (m := m) (d := srt.toArray) (os := os) hblk hb
  have hfs : (flatK enc k srt.toArray).size = n * k := by simp [hsl]
  have hle : n * k ≤ cap * k := Nat.mul_le_mul_right k hcap
  have hps : (putCells id 0 (flatK enc k srt.toArray) cur).size = cap * k := by simp [putCells, hcs]
  have hcellv : ∀ t, t < n * k → (putCells id 0 (flatK enc k srt.toArray) cur)[t]? = some ((flatK enc k srt.toArray)[t]!) := fun t ht => by
    simp only [putCells, Array.getElem?_mapIdx, hfs]
    rw [Array.getElem?_eq_getElem (by rw [hcs]; omega), Option.map_some, if_pos ⟨Nat.zero_le _, by omega⟩]
    rfl
  have hsi : ∀ i (hi : i < n), ∃ y : Fin n, srt[i]? = some y ∧ srt.toArray[i]! = y ∧ σ i = y.val := fun i hi => by
    have hi' : i < srt.length := by rw [hsl]; exact hi
    refine ⟨srt[i], List.getElem?_eq_getElem hi', ?_, hσ i _ (List.getElem?_eq_getElem hi')⟩
    rw [getElem!_pos srt.toArray i (by simpa using hi')]
    simp
  refine ⟨_, (putCells id 0 (flatK enc k srt.toArray) cur).toList.take (n * k), hr0, ⟨?_, .inr ⟨blk, cap, _, rfl, Nat.zero_le _, hrow, hcap, hmax, hps, rfl⟩⟩, fun i hi => ?_, fun i j x hi hx => ?_⟩
  · rw [List.length_take, Array.length_toList, hps]; omega
  · obtain ⟨y, _, _, h3⟩ := hsi i hi
    show (f (σ i)).length = k
    rw [h3]
    exact hl y.val y.isLt
  · obtain ⟨y, h2, h3, h4⟩ := hsi i hi
    have hx' : (f y.val)[j]? = some x := by rw [← h4]; exact hx
    have hj : j < k := by rw [← hl y.val y.isLt]; exact (List.getElem?_eq_some_iff.1 hx').1
    have hik : i * k + k ≤ n * k := hmul ⟨i, hi⟩
    have ht : i * k + j < n * k := by omega
    have hv : ((putCells id 0 (flatK enc k srt.toArray) cur).toList.take (n * k)).getD (i * k + j) undef = xs.getD (y.val * k + j) undef := by
      have h5 := hcellv (i * k + j) ht
      rw [get_flatK enc k srt.toArray _ (by simpa [hsl] using ht)] at h5
      have hdv : (i * k + j) / k = i := by rw [Nat.mul_comm, Nat.mul_add_div hk0, Nat.div_eq_of_lt hj, Nat.add_zero]
      have hmd : (i * k + j) % k = j := by rw [Nat.mul_comm, Nat.mul_add_mod, Nat.mod_eq_of_lt hj]
      rw [hdv, hmd, h3] at h5
      have h6 : (enc y)[j]! = (enc y)[j]'(by rw [henc]; exact hj) := getElem!_pos _ _ _
      have h7 := hget y j hj
      rw [List.getElem?_eq_getElem (by rw [henc]; exact hj)] at h7
      rw [h6] at h5
      simp only [List.getD_eq_getElem?_getD, List.getElem?_take, if_pos ht, Array.getElem?_toList, h5, ← h7]
    rw [hv]
    exact (hcell y.val j x y.isLt hx').tr hgd _ (Le.none _)
end Go.Eng
end
section
/- Contracts: cmp; package version: compare, Order. -/
namespace Go.Proofs.YtlhmgphgnedlkaaGreat
open Go.Eng
set_option maxRecDepth 10000
def cmpI (x y : Int) : Int := if x < y then -1 else if y < x then 1 else 0
theorem isNaN_ok (x : Int) : Does Tryz.prog 148 [.c (.int .i64 x)] (.c (.bool false)) := by
  refine Does.mk (fun _ => false) TT_ok Tryz.func148 rfl (by kernel_rfl) Tryz.ntmps148 rfl rfl fun E hT hE hN hR => ?_
  have hm := mixO hE
  (repeat (first | refine XK.n ?_ | refine XK.a ?_ | refine XK.b ?_))
  (first | refine XK.out rfl rfl rfl ?_ | refine XK.outN rfl rfl rfl ?_)
  exact cB (by simp)
theorem compare_ok (x y : Int) : Does Tryz.prog 121 [.c (.int .i64 x), .c (.int .i64 y)] (.c (.int .i64 (cmpI x y))) := by
  refine Does.mk (fun _ => false) TT_ok Tryz.func121 rfl (by kernel_rfl) Tryz.ntmps121 rfl rfl fun E hT hE hN hR => ?_
  have hm := mixO hE
  (repeat (first | refine XK.n ?_ | refine XK.a ?_ | refine XK.b ?_)); refine XK.region ?_; refine XL.g ?_
  refine XL.callLA hE rfl rfl rfl rfl trivial rfl (isNaN_ok x) rfl ?_
  refine XL.g ?_; refine XL.fin ?_; (repeat (first | refine XK.n ?_ | refine XK.a ?_ | refine XK.b ?_))
  (repeat (first | refine XK.n ?_ | refine XK.a ?_ | refine XK.b ?_)); refine XK.region ?_; refine XL.g ?_
  refine XL.callLA hE rfl rfl rfl rfl trivial rfl (isNaN_ok y) rfl ?_
  refine XL.g ?_; refine XL.fin ?_; (repeat (first | refine XK.n ?_ | refine XK.a ?_ | refine XK.b ?_))
  (repeat (first | refine XK.n ?_ | refine XK.a ?_ | refine XK.b ?_)); refine XK.cond rfl (fun h1 => ?_) (fun h1 => ?_)
  · cases h1
  (repeat (first | refine XK.n ?_ | refine XK.a ?_ | refine XK.b ?_)); refine XK.cond rfl (fun h2 => ?_) (fun h2 => ?_)
  · cases h2
  (repeat (first | refine XK.n ?_ | refine XK.a ?_ | refine XK.b ?_)); refine XK.cond rfl (fun h3 => ?_) (fun h3 => ?_) <;> (try simp at h3)
  · (repeat (first | refine XK.n ?_ | refine XK.a ?_ | refine XK.b ?_))
    (first | refine XK.out rfl rfl rfl ?_ | refine XK.outN rfl rfl rfl ?_)
    exact cI (by rw [cmpI, if_pos h3])
  (repeat (first | refine XK.n ?_ | refine XK.a ?_ | refine XK.b ?_)); refine XK.cond rfl (fun h4 => ?_) (fun h4 => ?_) <;> (try simp at h4)
  · (repeat (first | refine XK.n ?_ | refine XK.a ?_ | refine XK.b ?_))
    (first | refine XK.out rfl rfl rfl ?_ | refine XK.outN rfl rfl rfl ?_)
    exact cI (by rw [cmpI, if_neg (by omega), if_pos h4])
  · (repeat (first | refine XK.n ?_ | refine XK.a ?_ | refine XK.b ?_))
    (first | refine XK.out rfl rfl rfl ?_ | refine XK.outN rfl rfl rfl ?_)
    exact cI (by rw [cmpI, if_neg (by omega), if_neg (by omega)])
def or3 (x y z : Int) : Int := if x ≠ 0 then x else if y ≠ 0 then y else z
theorem or_ok (x y z : Int) : Does Tryz.prog 120 [.rs 1 3 (rowOf [.c (.int .i64 x), .c (.int .i64 y), .c (.int .i64 z)] 1)] (.c (.int .i64 (or3 x y z))) := by
  refine Does.mk (fun _ => false) TT_ok Tryz.func120 rfl (by kernel_rfl) Tryz.ntmps120 rfl rfl fun E hT hE hN hR => ?_
  have hm := mixO hE
  (repeat (first | refine XK.n ?_ | refine XK.a ?_ | refine XK.b ?_))
  refine XK.loop (ι := Nat) (fun i => ST.of [(3, .c (.int .i64 0)), (6, .rs 1 3 (fun j => [.c (.int .i64 (if j = 0 then x else if j = 1 then y else z))])), (7, .c (.int .i64 3)), (8, .c (.int .i64 i))] [] 1000 18 (fun _ => false))
    (fun i => i ≤ 3 ∧ ∀ j, j < i → (if j = 0 then x else if j = 1 then y else z) = 0) (fun i => 3 - i) 0 ⟨Nat.zero_le _, fun j hj => absurd hj (Nat.not_lt_zero _)⟩
    (Weak.of hN rfl rfl rfl ⟨rfl, ⟨rfl, rfl, fun j hj => by rcases j with _ | _ | _ | j <;> first | rfl | omega⟩, rfl, rfl⟩ trivial) fun i hi => ?_
  obtain ⟨hi, hz⟩ := hi
  (repeat (first | refine XK.n ?_ | refine XK.a ?_ | refine XK.b ?_)); refine XK.cond rfl (fun h1 => ?_) (fun h1 => ?_) <;> (try simp at h1)
  · (repeat (first | refine XK.n ?_ | refine XK.a ?_ | refine XK.b ?_))
    (repeat (first | refine XK.n ?_ | refine XK.a ?_ | refine XK.b ?_)); refine XK.cond rfl (fun h2 => ?_) (fun h2 => ?_) <;> (try simp at h2)
    · (repeat (first | refine XK.n ?_ | refine XK.a ?_ | refine XK.b ?_))
      (first | refine XK.out rfl rfl rfl ?_ | refine XK.outN rfl rfl rfl ?_)
      refine cI ?_
      have h3 : i = 0 ∨ i = 1 ∨ i = 2 := by omega
      have z0 := hz 0; have z1 := hz 1
      rcases h3 with rfl | rfl | rfl
      · simp [or3] at h2 ⊢; simp [h2]
      · simp [or3] at h2 z0 ⊢; simp [h2, z0]
      · simp [or3] at h2 z0 z1 ⊢; simp [z0, z1]
    · (repeat (first | refine XK.n ?_ | refine XK.a ?_ | refine XK.b ?_))
      refine XK.inv ⟨i + 1, ⟨by omega, fun j hj => ?_⟩, (Weak.of hN rfl rfl rfl frI frI), by omega⟩
      by_cases e : j = i
      · subst e; simpa using h2
      · exact hz j (by omega)
  · (repeat (first | refine XK.n ?_ | refine XK.a ?_ | refine XK.b ?_))
    (first | refine XK.out rfl rfl rfl ?_ | refine XK.outN rfl rfl rfl ?_)
    refine cI ?_
    have h3 : i = 3 := by omega
    have z0 := hz 0 (by omega); have z1 := hz 1 (by omega); have z2 := hz 2 (by omega)
    simp at z0 z1 z2
    simp [or3, z0, z1, z2]
def plC (a : Am) (i : Int) : List AV := [.c (.int .i64 a.number), .c (.int .i64 a.day), .c (.int .i64 a.known), .c (.int .i64 a.patch.kind), intsV a.patch.clauses, .c (.int .i64 a.patch.new.kind), .c (.int .i64 a.patch.new.role), .c (.int .i64 a.patch.new.act), .c (.int .i64 a.patch.new.need), cndsV a.patch.new.start, .c (.int .i64 a.patch.new.after), .c (.int .i64 a.patch.new.grace), .c (.bool a.patch.new.business), .c (.bool a.patch.new.final), .c (.int .i64 a.patch.new.pause), .c (.int .i64 a.patch.new.resume), .c (.int .i64 a.patch.new.value.1), .c (.int .i64 a.patch.new.value.2), .c (.int .i64 a.patch.new.unit), .c (.int .i64 a.patch.new.to), .c (.bool a.patch.new.waived), .c (.int .i64 a.patch.days), .c (.int .i64 i)]
def cmp3 (a : Am) (i : Int) (b : Am) (j : Int) : Int := or3 (cmpI a.day b.day) (cmpI a.number b.number) (cmpI i j)
theorem plCmp_ok (a b : Am) (i j : Int) : Does Tryz.prog 79 [.agg (plC a i), .agg (plC b j)] (.c (.int .i64 (cmp3 a i b j))) := by
  refine Does.mk (fun _ => false) TT_ok Tryz.func79 rfl (by kernel_rfl) Tryz.ntmps79 rfl rfl fun E hT hE hN hR => ?_
  have hm := mixO hE
  (repeat (first | refine XK.n ?_ | refine XK.a ?_ | refine XK.b ?_)); refine XK.drawn hm ?_; refine XD.goA hT rfl rfl rfl rfl ?_
  refine XD.callLA hE rfl rfl rfl rfl trivial rfl (compare_ok a.day b.day) rfl ?_
  refine XD.goA hT rfl rfl rfl rfl ?_
  refine XD.callLA hE rfl rfl rfl rfl trivial rfl (compare_ok a.number b.number) rfl ?_
  refine XD.goA hT rfl rfl rfl rfl ?_
  refine XD.callLA hE rfl rfl rfl rfl trivial rfl (compare_ok i j) rfl ?_
  refine XD.goA hT rfl rfl rfl rfl ?_
  refine XD.callLA hE rfl rfl rfl rfl trivial rfl (or_ok (cmpI a.day b.day) (cmpI a.number b.number) (cmpI i j)) rfl ?_
  refine XD.goA hT rfl rfl rfl rfl ?_; refine XD.fin (by kernel_rfl) ?_; (repeat (first | refine XK.n ?_ | refine XK.a ?_ | refine XK.b ?_))
  (first | refine XK.out rfl rfl rfl ?_ | refine XK.outN rfl rfl rfl ?_)
  rfl
end Go.Proofs.YtlhmgphgnedlkaaGreat
end
section
/- Contracts: package version: the order. -/
namespace Go.Proofs.YtlhmgphgnedlkaaGreat
open Go.Eng Go.Sort
set_option maxRecDepth 10000
theorem cmpI_cases (x y : Int) : (x < y ∧ cmpI x y = -1) ∨ (y < x ∧ cmpI x y = 1) ∨ (x = y ∧ cmpI x y = 0) := by
  unfold cmpI
  split
  · exact .inl ⟨by assumption, rfl⟩
  · split
    · exact .inr (.inl ⟨by assumption, rfl⟩)
    · exact .inr (.inr ⟨by omega, rfl⟩)
theorem cmp3_neg (l : List Am) (i j : Nat) : decide (cmp3 (l.getD i default) i (l.getD j default) j < 0) = !amLe l j i := by
  have h1 := cmpI_cases (l.getD i default).day (l.getD j default).day
  have h2 := cmpI_cases (l.getD i default).number (l.getD j default).number
  have h3 := cmpI_cases (i : Int) (j : Int)
  unfold cmp3 or3 amLe
  generalize cmpI (l.getD i default).day (l.getD j default).day = c1 at *
  generalize cmpI (l.getD i default).number (l.getD j default).number = c2 at *
  generalize cmpI (i : Int) (j : Int) = c3 at *
  generalize (l.getD i default).day = d1 at *
  generalize (l.getD j default).day = d2 at *
  generalize (l.getD i default).number = n1 at *
  generalize (l.getD j default).number = n2 at *
  rw [Bool.eq_iff_iff]
  simp only [decide_eq_true_eq, Bool.not_eq_true', Bool.or_eq_false_iff, Bool.and_eq_false_iff, decide_eq_false_iff_not, beq_eq_false_iff_ne]
  rcases h1 with ⟨a1, rfl⟩ | ⟨a1, rfl⟩ | ⟨a1, rfl⟩ <;> rcases h2 with ⟨a2, rfl⟩ | ⟨a2, rfl⟩ | ⟨a2, rfl⟩ <;> rcases h3 with ⟨a3, rfl⟩ | ⟨a3, rfl⟩ | ⟨a3, rfl⟩ <;> simp <;> omega
def plO (s : Nat) (l : List Am) (σ : Nat → Nat) : Ob := .vec 152 23 s l.length (fun i => plC (l.getD (σ i) default) (σ i : Nat))
def ordAt (l : List Am) (i : Nat) : Nat := (ordL l).getD i 0
theorem sortPl_ok (l : List Am) (hl : l.length ≤ 1000000) :
    DoesM Tryz.prog 78 [.vec 0 0, .fn (.func 79) [] []] [plO 0 l (fun i => i)] (.tup []) [plO 0 l (ordAt l)] := by
  let cf : Fin l.length → Fin l.length → Int := fun x y => cmp3 (l.getD x.val default) x.val (l.getD y.val default) y.val
  have hcf : ∀ x y : Fin l.length, ltOf cf x y = !amLe l y.val x.val := fun x y => cmp3_neg l x.val y.val
  have eg : ∀ args w, (callFunc 79 args).run Tryz.prog w = .ok (.enter 79 args) w := enters_of Tryz.func79 (by kernel_rfl) rfl
  refine sortFunc_doesM (ρ := sortRen) sortLaid ⟨_, Tryz.func78, rfl, by kernel_rfl⟩ 23 (by decide) Tryz.isAgg152 Tryz.sizeOf152 hl _ (fun i hi x hx => ?_) 79 eg cf ⟨fun x => ?_, fun x y z h1 h2 => ?_, fun x y z h1 h2 => ?_⟩ (fun x y h1 h2 => ?_) (fun i j => plCmp_ok _ _ _ _) (ordAt l) (fun i x hx => ?_)
  · simp only [plC, List.mem_cons, List.not_mem_nil, or_false] at hx
    rcases hx with rfl | rfl | rfl | rfl | rfl | rfl | rfl | rfl | rfl | rfl | rfl | rfl | rfl | rfl | rfl | rfl | rfl | rfl | rfl | rfl | rfl | rfl | rfl <;> rfl
  · rw [hcf]
    have := amLe_tot l x.val x.val
    simp only [or_self] at this
    rw [this]; rfl
  · rw [hcf] at *
    rw [Bool.not_eq_true'] at *
    have a1 := amLe_tot l x.val y.val
    cases h : amLe l z.val x.val with
    | false => rfl
    | true =>
      have h3 : amLe l x.val y.val = true := by
        rcases a1 with a | a
        · exact a
        · rw [a] at h1; cases h1
      rw [amLe_tr l _ _ _ h h3] at h2
      cases h2
  · rw [hcf] at *
    rw [Bool.not_eq_false'] at *
    exact amLe_tr l _ _ _ h2 h1
  · rw [hcf] at *
    rw [Bool.not_eq_false'] at *
    exact Fin.ext (amLe_as l _ _ h2 h1)
  · have hle : (fun x y : Fin l.length => !(ltOf cf) y x) = fun x y => amLe l x.val y.val := by
      funext x y; rw [hcf, Bool.not_not]
    rw [hle] at hx
    have hp : ((List.finRange l.length).map Fin.val) = List.range l.length := by
      refine List.ext_getElem (by simp) fun i h1 h2 => by simp
    have h1 : (((List.finRange l.length).mergeSort fun x y => amLe l x.val y.val).map Fin.val) = ordL l := by
      refine ordL_one ?_ ?_
      · rw [← hp]; exact (List.mergeSort_perm _ _).map _
      · rw [List.pairwise_map]
        exact List.pairwise_mergeSort (le := fun x y : Fin l.length => amLe l x.val y.val) (fun a b c => amLe_tr l _ _ _) (fun a b => by rw [Bool.or_eq_true]; exact amLe_tot l a.val b.val) _
    unfold ordAt
    rw [← h1, List.getD_eq_getElem?_getD, List.getElem?_map, hx]
    rfl
def zeroPl : List AV := [.c (.int .i64 0), .c (.int .i64 0), .c (.int .i64 0), .c (.int .i64 0), .c (.slice none 0 0), .c (.int .i64 0), .c (.int .i64 0), .c (.int .i64 0), .c (.int .i64 0), .c (.slice none 0 0), .c (.int .i64 0), .c (.int .i64 0), .c (.bool false), .c (.bool false), .c (.int .i64 0), .c (.int .i64 0), .c (.int .i64 0), .c (.int .i64 0), .c (.int .i64 0), .c (.int .i64 0), .c (.bool false), .c (.int .i64 0), .c (.int .i64 0)]
def plTo (l : List Am) (i : Nat) : Nat → List AV := fun j => bif Nat.blt j i then plC (l.getD j default) (j : Nat) else zeroPl
theorem blt_succ_ne {i j : Nat} (h : j ≠ i) : Nat.blt j (i + 1) = Nat.blt j i := by
  rw [Bool.eq_iff_iff, Nat.blt_eq, Nat.blt_eq]; omega
theorem blt_irr (j : Nat) : Nat.blt j j = false := by
  cases hb : Nat.blt j j with
  | false => rfl
  | true => exact absurd (Nat.le_of_ble_eq_true hb) (Nat.lt_irrefl _)
theorem plTo_succ {l : List Am} {i : Nat} (j : Nat) : plTo l (i + 1) j = setRowF (plTo l i) i 0 (plC (l.getD i default) (i : Nat)) j := by
  unfold setRowF plTo
  by_cases h : j = i
  · subst h
    rw [show Nat.beq j j = true by simp, show Nat.blt j (j + 1) = true by simp, blt_irr]
    rfl
  · rw [beq_false h, blt_succ_ne h]
    rfl
def ordI (l : List Am) : List Int := (ordL l).map fun (i : Nat) => (i : Int)
theorem ordI_len (l : List Am) : (ordI l).length = l.length := by rw [ordI, List.length_map, ordL_len]
theorem ordI_at (l : List Am) {i : Nat} (hi : i < l.length) : (ordI l).getD i default = (ordAt l i : Nat) := by
  have : i < (ordL l).length := by rw [ordL_len]; exact hi
  simp [ordI, ordAt, List.getD, this]
def outTo (l : List Am) (i : Nat) : Nat → List AV := fun j => bif Nat.blt j i then iC ((ordI l).getD j default) else [.c (.int .i64 0)]
theorem outTo_succ {l : List Am} {i : Nat} (hi : i < l.length) (j : Nat) : outTo l (i + 1) j = setRowF (outTo l i) i 0 [.c (.int .i64 (ordAt l i : Nat))] j := by
  unfold setRowF outTo
  by_cases h : j = i
  · subst h
    rw [show Nat.beq j j = true by simp, show Nat.blt j (j + 1) = true by simp, blt_irr, ordI_at l hi]
    rfl
  · rw [beq_false h, blt_succ_ne h]
    rfl
theorem order_ok (l : List Am) (hl : l.length ≤ 1000000) : Does Tryz.prog 53 [amsV l] (intsV (ordI l)) := by
  refine Does.mk (fun d => Nat.beq d 11 || Nat.beq d 30) TT_ok Tryz.func53 rfl (by kernel_rfl) Tryz.ntmps53 rfl rfl fun E hT hE hN hR => ?_
  have hm := mixO hE
  (repeat (first | refine XK.n ?_ | refine XK.a ?_ | refine XK.b ?_))
  refine XK.loop (ι := Nat) (fun i => ST.of [(0, amsV l), (3, .vec 56 0), (12, amsV l), (13, .c (.int .i64 l.length)), (14, .c (.int .i64 i))] [(56, .vec 152 23 0 l.length (plTo l i))] 1000 45 (fun d => Nat.beq d 11 || Nat.beq d 30))
    (fun i => i ≤ l.length) (fun i => l.length - i) 0 (Nat.zero_le _) (Weak.of hN rfl rfl rfl frI frI) fun i hi => ?_
  (repeat (first | refine XK.n ?_ | refine XK.a ?_ | refine XK.b ?_)); refine XK.cond rfl (fun hlt => ?_) (fun hlt => ?_) <;> (try simp at hlt)
  · have fx : l.getD (i : Int).toNat default = l.getD i default := rfl
    (repeat (first | refine XK.n ?_ | refine XK.a ?_ | refine XK.b ?_))
    rw [fx]
    exact XK.inv ⟨i + 1, hlt, Weak.of hN rfl rfl rfl (by (repeat' (first | exact rfl | exact AvIs.refl _ | exact trivial | exact fun _ _ => rfl | exact fun _ _ => ⟨rfl, AvIs.refl _⟩ | exact cI (by omega) | refine ⟨?_, ?_⟩))) ⟨⟨rfl, rfl, rfl⟩, rfl, fun j hj => plTo_succ j⟩, by omega⟩
  have hie : i = l.length := by omega
  subst hie
  refine XK.weak (st' := ST.of [(0, amsV l), (3, .vec 56 0)] [(56, plO 0 l (fun i => i))] 2000 45 (fun d => Nat.beq d 11 || Nat.beq d 30)) (Weak.of hN rfl rfl rfl (by (repeat' (first | exact rfl | exact AvIs.refl _ | exact trivial | exact fun _ _ => rfl | exact fun _ _ => ⟨rfl, AvIs.refl _⟩ | exact cI (by omega) | refine ⟨?_, ?_⟩))) ⟨⟨rfl, rfl, rfl⟩, rfl, fun j hj => by show plC _ _ = bif Nat.blt j l.length then _ else _; rw [show Nat.blt j l.length = true from Nat.ble_eq_true_of_le hj]; rfl⟩) ?_
  (repeat (first | refine XK.n ?_ | refine XK.a ?_ | refine XK.b ?_))
  (repeat (first | refine XK.n ?_ | refine XK.a ?_ | refine XK.b ?_)); refine XK.region ?_; refine XL.g ?_
  refine XL.callMA [56] hE rfl rfl rfl rfl trivial (sortPl_ok l hl) rfl rfl rfl rfl rfl ?_
  refine XL.g ?_; refine XL.fin ?_; (repeat (first | refine XK.n ?_ | refine XK.a ?_ | refine XK.b ?_))
  refine XK.loop (ι := Nat) (fun i => ST.of [(6, .vec 2075 0), (31, .vec 56 0), (32, .c (.int .i64 l.length)), (33, .c (.int .i64 i))] [(56, plO 0 l (ordAt l)), (2075, .vec 3 1 0 l.length (outTo l i))] 3000 45 (fun _ => false))
    (fun i => i ≤ l.length) (fun i => l.length - i) 0 (Nat.zero_le _) (Weak.of hN rfl rfl rfl frI frI) fun i hi => ?_
  (repeat (first | refine XK.n ?_ | refine XK.a ?_ | refine XK.b ?_)); refine XK.cond rfl (fun hlt2 => ?_) (fun hlt2 => ?_) <;> (try simp at hlt2)
  · unfold plO
    have fx : ordAt l (i : Int).toNat = ordAt l i := rfl
    (repeat (first | refine XK.n ?_ | refine XK.a ?_ | refine XK.b ?_))
    rw [fx]
    exact XK.inv ⟨i + 1, hlt2, Weak.of hN rfl rfl rfl (by (repeat' (first | exact rfl | exact AvIs.refl _ | exact trivial | exact fun _ _ => rfl | exact fun _ _ => ⟨rfl, AvIs.refl _⟩ | exact cI (by omega) | refine ⟨?_, ?_⟩))) ⟨frI, ⟨rfl, rfl, rfl⟩, rfl, fun j hj => outTo_succ hlt2 j⟩, by omega⟩
  have hie : i = l.length := by omega
  subst hie
  (repeat (first | refine XK.n ?_ | refine XK.a ?_ | refine XK.b ?_))
  refine XK.weak (Weak.frozen (k := 2075) hN rfl rfl) ?_
  (first | refine XK.outL rfl rfl rfl ?_ | refine XK.outLN rfl rfl rfl ?_)
  exact ⟨rfl, (ordI_len l).symm, fun j hj => by show _ = bif Nat.blt j l.length then _ else _; rw [show Nat.blt j l.length = true from Nat.ble_eq_true_of_le hj]; rfl⟩
end Go.Proofs.YtlhmgphgnedlkaaGreat
end
section
/- Contracts: package version: same, check, copied, counting. -/
namespace Go.Proofs.YtlhmgphgnedlkaaGreat
open Go.Eng
set_option maxRecDepth 10000
def listB {α : Type} (f : α → α → Bool) : List α → List α → Bool
  | [], [] => true
  | x :: l, y :: m => f x y && listB f l m
  | _, _ => false
theorem listB_at {α : Type} [Inhabited α] {f : α → α → Bool} : ∀ {l m : List α}, listB f l m = true ↔ l.length = m.length ∧ ∀ i, i < l.length → f (l.getD i default) (m.getD i default) = true
  | [], [] => by simp [listB]
  | [], y :: m => by simp [listB]
  | x :: l, [] => by simp [listB]
  | x :: l, y :: m => by
    simp only [listB, Bool.and_eq_true, listB_at, List.length_cons]
    constructor
    · rintro ⟨h1, h2, h3⟩
      refine ⟨by omega, fun i hi => ?_⟩
      cases i with
      | zero => exact h1
      | succ i => exact h3 i (by omega)
    · rintro ⟨h1, h2⟩
      exact ⟨h2 0 (by omega), by omega, fun i hi => h2 (i + 1) (by omega)⟩
theorem listB_no {α : Type} [Inhabited α] {f : α → α → Bool} {l m : List α} (h : l.length ≠ m.length ∨ ∃ i, i < l.length ∧ f (l.getD i default) (m.getD i default) = false) : listB f l m = false := by
  rw [Bool.eq_false_iff]
  intro hb
  obtain ⟨h1, h2⟩ := listB_at.1 hb
  rcases h with h | ⟨i, hi, h⟩
  · exact h h1
  · rw [h2 i hi] at h; cases h
theorem listB_iff {α : Type} {f : α → α → Bool} (hf : ∀ x y, f x y = true ↔ x = y) : ∀ {l m : List α}, listB f l m = true ↔ l = m
  | [], [] => by simp [listB]
  | [], y :: m => by simp [listB]
  | x :: l, [] => by simp [listB]
  | x :: l, y :: m => by simp only [listB, Bool.and_eq_true, listB_iff hf, hf, List.cons.injEq]
def cndB (a b : Cnd) : Bool := a.clause == b.clause && a.is == b.is
theorem cndB_iff (a b : Cnd) : cndB a b = true ↔ a = b := by
  cases a; cases b; simp [cndB]
def clB (a b : Cl) : Bool := listB cndB a.start b.start && a.kind == b.kind && a.role == b.role && a.act == b.act && a.need == b.need && a.after == b.after && a.grace == b.grace && a.business == b.business && a.final == b.final && a.pause == b.pause && a.resume == b.resume && (a.value.1 == b.value.1 && a.value.2 == b.value.2) && a.unit == b.unit && a.to == b.to && a.waived == b.waived
theorem clB_iff (a b : Cl) : clB a b = true ↔ a = b := by
  obtain ⟨a1, a2, a3, a4, a5, a6, a7, a8, a9, a10, a11, ⟨a12, a13⟩, a14, a15, a16⟩ := a
  obtain ⟨b1, b2, b3, b4, b5, b6, b7, b8, b9, b10, b11, ⟨b12, b13⟩, b14, b15, b16⟩ := b
  simp only [clB, Bool.and_eq_true, listB_iff cndB_iff, beq_iff_eq, Cl.mk.injEq, Prod.mk.injEq]
  constructor <;> (intro h; simp only [h, and_self])
theorem eqCnds_ok (l m : List Cnd) (hl : l.length ≤ 1000000) : Does Tryz.prog 124 [cndsV l, cndsV m] (.c (.bool (listB cndB l m))) := by
  refine Does.mk (fun _ => false) TT_ok Tryz.func124 rfl (by kernel_rfl) Tryz.ntmps124 rfl rfl fun E hT hE hN hR => ?_
  have hm := mixO hE
  (repeat (first | refine XK.n ?_ | refine XK.a ?_ | refine XK.b ?_)); refine XK.cond rfl (fun h1 => ?_) (fun h1 => ?_) <;> (try simp at h1)
  · (repeat (first | refine XK.n ?_ | refine XK.a ?_ | refine XK.b ?_))
    (first | refine XK.out rfl rfl rfl ?_ | refine XK.outN rfl rfl rfl ?_)
    exact cB (listB_no (.inl (by omega))).symm
  (repeat (first | refine XK.n ?_ | refine XK.a ?_ | refine XK.b ?_))
  refine XK.loop (ι := Nat) (fun i => ST.of [(0, cndsV l), (1, cndsV m), (11, cndsV l), (12, .c (.int .i64 l.length)), (13, .c (.int .i64 i))] [] 1000 26 (fun _ => false))
    (fun i => i ≤ l.length ∧ ∀ j, j < i → cndB (l.getD j default) (m.getD j default) = true) (fun i => l.length - i) 0 ⟨Nat.zero_le _, fun j hj => absurd hj (Nat.not_lt_zero _)⟩ (Weak.of hN rfl rfl rfl frI frI) fun i hi => ?_
  obtain ⟨hi, hj⟩ := hi
  (repeat (first | refine XK.n ?_ | refine XK.a ?_ | refine XK.b ?_)); refine XK.cond rfl (fun hlt => ?_) (fun hlt => ?_) <;> (try simp at hlt)
  · have fx : l.getD (i : Int).toNat default = l.getD i default := rfl
    have fy : m.getD (i : Int).toNat default = m.getD i default := rfl
    have hb : cndB (l.getD i default) (m.getD i default) = ((l.getD i default).clause == (m.getD i default).clause && (l.getD i default).is == (m.getD i default).is) := rfl
    (repeat (first | refine XK.n ?_ | refine XK.a ?_ | refine XK.b ?_))
    rw [fx, fy]
    (repeat (first | refine XK.n ?_ | refine XK.a ?_ | refine XK.b ?_)); refine XK.cond rfl (fun h2 => ?_) (fun h2 => ?_)
    · (repeat (first | refine XK.n ?_ | refine XK.a ?_ | refine XK.b ?_))
      (first | refine XK.out rfl rfl rfl ?_ | refine XK.outN rfl rfl rfl ?_)
      refine cB (listB_no (.inr ⟨i, hlt, ?_⟩)).symm
      rw [hb]
      simp only [Bool.not_eq_true'] at h2
      exact h2
    · (repeat (first | refine XK.n ?_ | refine XK.a ?_ | refine XK.b ?_))
      refine XK.inv ⟨i + 1, ⟨hlt, fun j hj' => ?_⟩, (Weak.of hN rfl rfl rfl frI frI), by omega⟩
      by_cases e : j = i
      · subst e; rw [hb]; simpa using h2
      · exact hj j (by omega)
  · (repeat (first | refine XK.n ?_ | refine XK.a ?_ | refine XK.b ?_))
    (first | refine XK.out rfl rfl rfl ?_ | refine XK.outN rfl rfl rfl ?_)
    exact cB (listB_at.2 ⟨by omega, fun j hj' => hj j (by omega)⟩).symm
noncomputable def checkV (k : K) (l : List Am) : Int := if (kValid k).1 ≠ 0 then 1 else if 60 < l.length then 3 else 0
theorem checkV_ok (k : K) (hk : kW k) (l : List Am) : Does Tryz.prog 50 [kV k, amsV l] (.c (.int .i64 (checkV k l))) := by
  refine Does.mk (fun _ => false) TT_ok Tryz.func50 rfl (by kernel_rfl) Tryz.ntmps50 rfl rfl fun E hT hE hN hR => ?_
  have hm := mixO hE
  (repeat (first | refine XK.n ?_ | refine XK.a ?_ | refine XK.b ?_)); refine XK.region ?_; refine XL.g ?_
  refine XL.callLA hE rfl rfl rfl rfl trivial rfl (kValid_ok k hk) rfl ?_
  refine XL.g ?_; refine XL.fin ?_; (repeat (first | refine XK.n ?_ | refine XK.a ?_ | refine XK.b ?_))
  (repeat (first | refine XK.n ?_ | refine XK.a ?_ | refine XK.b ?_)); refine XK.cond rfl (fun h1 => ?_) (fun h1 => ?_) <;> (try simp at h1)
  · (repeat (first | refine XK.n ?_ | refine XK.a ?_ | refine XK.b ?_))
    (first | refine XK.out rfl rfl rfl ?_ | refine XK.outN rfl rfl rfl ?_)
    exact cI (by rw [checkV, if_pos h1])
  (repeat (first | refine XK.n ?_ | refine XK.a ?_ | refine XK.b ?_)); refine XK.cond rfl (fun h2 => ?_) (fun h2 => ?_) <;> (try simp at h2)
  · (repeat (first | refine XK.n ?_ | refine XK.a ?_ | refine XK.b ?_))
    (first | refine XK.out rfl rfl rfl ?_ | refine XK.outN rfl rfl rfl ?_)
    exact cI (by rw [checkV, if_neg (by omega), if_pos (by omega)])
  · (repeat (first | refine XK.n ?_ | refine XK.a ?_ | refine XK.b ?_))
    (first | refine XK.out rfl rfl rfl ?_ | refine XK.outN rfl rfl rfl ?_)
    exact cI (by rw [checkV, if_neg (by omega), if_neg (by omega)])
theorem counting_ok (l : List Am) (known : Int) : Does Tryz.prog 52 [amsV l, .c (.int .i64 known)] (.fn (.func 77) [] [.rptr [amsV l], .rptr [.c (.int .i64 known)]]) := by
  refine Does.mk (fun _ => false) TT_ok Tryz.func52 rfl (by kernel_rfl) Tryz.ntmps52 rfl rfl fun E hT hE hN hR => ?_
  have hm := mixO hE
  (repeat (first | refine XK.n ?_ | refine XK.a ?_ | refine XK.b ?_))
  refine XK.weak (Weak.trans (Weak.frozenC (k := 2) hN rfl rfl rfl) (Weak.frozenC (k := 3) hN rfl rfl rfl)) ?_
  (first | refine XK.out rfl rfl rfl ?_ | refine XK.outN rfl rfl rfl ?_)
  rfl
end Go.Proofs.YtlhmgphgnedlkaaGreat
end
