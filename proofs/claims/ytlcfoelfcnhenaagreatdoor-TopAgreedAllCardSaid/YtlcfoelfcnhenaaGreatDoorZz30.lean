import Derived.Test.YtlcfoelfcnhenaaGreatDoorZz14
import Derived.Test.YtlcfoelfcnhenaaGreatDoorRows
import Derived.WalkKit
import Derived.ProofKit
import Derived.OpenShut
import Derived.ChangeOld
import Derived.Below
import Derived.Lib.LaidTab
import Derived.LaidHandle
import Derived.ChangeVars
import Derived.ChangeSame
import Derived.JoinedOf
import Derived.Handed
import Derived.Test.YtlcfoelfcnhenaaGreatDoorZz29
set_option linter.unusedSimpArgs false
set_option linter.unusedVariables false
set_option maxRecDepth 10000
namespace Go.Proofs.YtlcfoelfcnhenaaGreatDoor
section
open Go.ChangeShapes Go.WideShapes Go.ChangeAt Go.RowKit
open Go.Eng
theorem var_heap {P : Program} {W : World} {name : String} {k : IntKind} {zs : List Int} {g : Nat} (hg : P.globalNamed name = some g) (h : Lib.TabIs P W name k zs) : ∃ t fz, W.heap[g]? = some (.cells (zs.map fun z => Value.int k z).toArray t fz) := by
  unfold Lib.TabIs World.var? at h
  rw [hg, Option.bind_some] at h
  split at h
  · rename_i cs t fz hh
    injection h with h
    exact ⟨t, fz, by rw [hh, h]⟩
  · cases h
theorem tab_of {P : Program} {W : World} {name : String} {k : IntKind} {zs : List Int} {g g' t' : Nat} {t e : TypeId} {n : Nat} {cs : Array Value} {fuel : Nat} {p : List MemPlace}
    (hg : P.globalNamed name = some g) (hty : (P.globals[g]?).map (·.type) = some t) (ht : P.underlying t = some (.array n e)) (he : P.underlying e = some (.int k)) (hce : P.cellsOf e = 1) (hct : P.cellsOf t = n)
    (hg' : P.globalNamed name = some g') (ht' : (P.globals[g']?).map (·.type) = some t') (hvar : W.var? P name = some cs) (hd : DataW.trod (fun _ => ()) P W 0 (fun _ => true) false fuel t' cs.toList = some (Lib.tabData k zs, p)) : Lib.TabIs P W name k zs := by
  obtain rfl := Option.some.inj (hg.symm.trans hg')
  obtain rfl := Option.some.inj (hty.symm.trans ht')
  unfold Lib.TabIs
  rw [hvar, ← Lib.cells_of_tab ht he hce hct hd]
def shaT : List Int := (GT.getD 0 default).2.map fun v => match v with | .int _ z => z | _ => 0
def powT : List Int := (GT.getD 1 default).2.map fun v => match v with | .int _ z => z | _ => 0
theorem gt_is : GT = [(0, shaT.map fun z => Value.int .u32 z), (1, powT.map fun z => Value.int .u64 z)] := by rfl
theorem sha_is : (Rows.laid_estoppel_digest_constants : DataW Unit) = Lib.tabData .u32 shaT := by rfl
theorem pow_is : (Rows.laid_internal_strconv_uint64pow10 : DataW Unit) = Lib.tabData .u64 powT := by rfl
abbrev laidL : List (String × DataW Unit) := [("math/bits.deBruijn32tab", Rows.laid_math_bits_deBruijn32tab), ("math/bits.deBruijn64tab", Rows.laid_math_bits_deBruijn64tab), ("internal/strconv.uint64pow10", Rows.laid_internal_strconv_uint64pow10), ("estoppel/digest.constants", Rows.laid_estoppel_digest_constants)]
theorem gl_of_laid {W : World} (h : laidMetH Tryz.prog laidL W) : GlIn W (fun b => b < W.heap.size) := by
  have h' : laidMet Tryz.prog laidL W := h
  obtain ⟨ps, ⟨_, _, _, _, _, _, _, _, _, _, ⟨_, _, _, _, _, _, _, _, _, _, ⟨g2, t2, c2, f2, p2, q2, a2, b2, e2, d2, ⟨g3, t3, c3, f3, p3, q3, a3, b3, e3, d3, _⟩, _⟩, _⟩, _⟩, _⟩ := h'
  rw [pow_is] at d2
  rw [sha_is] at d3
  have k0 : Tryz.prog.globalNamed "estoppel/digest.constants" = some 0 := by kernel_rfl
  have k1 : Tryz.prog.globalNamed "internal/strconv.uint64pow10" = some 1 := by kernel_rfl
  have s0 := tab_of k0 (t := 205) (e := 168) (n := 64) (by kernel_rfl) (by kernel_rfl) (by kernel_rfl) (by kernel_rfl) (by kernel_rfl) a3 b3 e3 d3
  have s1 := tab_of k1 (t := 255) (e := 186) (n := 20) (by kernel_rfl) (by kernel_rfl) (by kernel_rfl) (by kernel_rfl) (by kernel_rfl) a2 b2 e2 d2
  obtain ⟨t0, z0, h0⟩ := var_heap k0 s0
  obtain ⟨t1, z1, h1⟩ := var_heap k1 s1
  intro x hx
  rw [gt_is] at hx
  rcases List.mem_cons.1 hx with rfl | hx
  · exact ⟨(Array.getElem?_eq_some_iff.1 h0).1, t0, z0, h0⟩
  · obtain rfl := List.mem_singleton.1 hx
    exact ⟨(Array.getElem?_eq_some_iff.1 h1).1, t1, z1, h1⟩
def litsV : DataW Unit → Array Value
  | .agg l => (l.map fun d => match d with | .lit (.int k z) => Value.int k z | _ => undef).toArray
  | _ => #[]
noncomputable def laidWorld (os : Os) : World :=
  let put (d : DataW Unit) : Obj → Obj := fun o => match o with | .cells _ t fz => .cells (litsV d) t fz | o => o
  { World.holding Tryz.prog os ⟨#[], #[], []⟩ with heap := ((((World.holding Tryz.prog os ⟨#[], #[], []⟩).heap.modify 0 (put Rows.laid_estoppel_digest_constants)).modify 1 (put Rows.laid_internal_strconv_uint64pow10)).modify 2 (put Rows.laid_math_bits_deBruijn32tab)).modify 3 (put Rows.laid_math_bits_deBruijn64tab) }
theorem laidWorld_met (os : Os) (args : Array Value) : laidMetH Tryz.prog laidL ((laidWorld os).forCall (fun _ _ => 0) ⟨#[], args, []⟩).memory :=
  show laidMet Tryz.prog laidL _ from laidMet_of_run' 4 (by kernel_rfl) (by kernel_rfl)
theorem own_topAgreedAll : ownKnob Tryz.prog.godebug = none := by kernel_rfl
theorem laid_topAgreedAll : laidOutB Tryz.prog = true := by kernel_rfl
set_option maxRecDepth 100000 in
theorem lifted_topAgreedAll (os : Os) (started : os.Started) (H : Type) (enc : TypeId × Value → H) :
    ReturnsInHanded {} Tryz.checked os 3 .any (fun w args => (Rows.topAgreedAllSpec.pre enc Tryz.prog Tryz.f3 Rows.topAgreedAllRow.domain false w args ∧ laidMetH Tryz.prog laidL w) ∧ sizedMet enc Tryz.prog Tryz.f3 (OpenSpec.ofChange Rows.topAgreedAllSpec) false w args)
      (Rows.topAgreedAllSpec.post enc Tryz.prog Tryz.f3 false true false false) := by
  refine returnsInHanded_of_change_and (C := Tryz.checked) (X := fun w _ => laidMetH Tryz.prog laidL w) (fun _ _ _ hh h => h.of_heap hh) own_topAgreedAll started (by kernel_rfl) Tryz.func3
    (ChangeSpec.witness_at (enc := enc) (C := Tryz.checked) (os := os) (X := fun w _ => laidMetH Tryz.prog laidL w) false (laidWorld os) #[.agg #[.int .i64 0, .slice none 0 0, .slice none 0 0, .slice none 0 0, .slice none 0 0, .int .i64 0, .slice none 0 0], .slice none 0 0, .int .u8 0, .int .i64 0, .int .i64 0, .slice none 0 0] 8 rfl (by kernel_rfl) (by kernel_rfl) (by kernel_rfl) (by kernel_rfl) (by kernel_rfl) (laidWorld_met os _)) ?_
  intro W base args ds gs before hval0 hW hcnd _ hL _
  have hval : ∀ (j : Nat) t v, Tryz.f3.params[j]? = some t → args[j]? = some v → Value.okWide Tryz.prog W .any base t v := hval0
  have hW' := hW
  obtain ⟨p, q, hA0, hV, rfl, hfz, hnd⟩ := hW
  have hA : DataW.TrodAll enc Tryz.prog W 0 (fun _ => true) true Tryz.f3.params.toList args.toList ds p := hA0
  rw [Tryz.params3] at hA hval
  obtain ⟨v0, vs0, d0, ds0, p0, q0, hargs, rfl, rfl, h0, r0⟩ := trodAll_cons hA
  obtain ⟨v1, vs1, d1, ds1, p1, q1, rfl, rfl, rfl, h1, r1⟩ := trodAll_cons r0
  obtain ⟨v2, vs2, d2, ds2, p2, q2, rfl, rfl, rfl, h2, r2⟩ := trodAll_cons r1
  obtain ⟨v3, vs3, d3, ds3, p3, q3, rfl, rfl, rfl, h3, r3⟩ := trodAll_cons r2
  obtain ⟨v4, vs4, d4, ds4, p4, q4, rfl, rfl, rfl, h4, r4⟩ := trodAll_cons r3
  obtain ⟨v5, vs5, d5, ds5, p5, q5, rfl, rfl, rfl, h5, r5⟩ := trodAll_cons r4
  obtain ⟨rfl, rfl, rfl⟩ := trodAll_nil r5
  obtain rfl : args = #[v0, v1, v2, v3, v4, v5] := by cases args; simp_all
  obtain ⟨rfl, rfl⟩ := trodVars_none hV
  have k0 := h0
  have lt0 : ∀ x ∈ p0, x.block < W.heap.size := by obtain ⟨m, hm⟩ := k0; exact DataW.trod_lt m _ _ _ hm
  obtain ⟨a0, o0, g0⟩ : ∃ a, cK.ok a ∧ R W (fun b => b < W.heap.size) Rho.none (.agg (cK.enc a)) v0 := by
    obtain ⟨fs, ht, _, _⟩ := ty27_k
    exact arg_agg cK ht (hval 0 _ v0 rfl rfl) h0
  have k1 := h1
  have lt1 : ∀ x ∈ p1, x.block < W.heap.size := by obtain ⟨m, hm⟩ := k1; exact DataW.trod_lt m _ _ _ hm
  obtain ⟨a1, o1, g1⟩ := arg_cell cLts (fun l => rowL cLt.enc cLt.sz l) (fun _ => rfl) (by kernel_rfl) (hval 1 _ v1 rfl rfl) h1
  have k2 := h2
  have lt2 : ∀ x ∈ p2, x.block < W.heap.size := by obtain ⟨m, hm⟩ := k2; exact DataW.trod_lt m _ _ _ hm
  obtain ⟨a2, o2, g2⟩ := arg_cell cU8 (fun z => .c (.int .u8 z)) (fun _ => rfl) (by kernel_rfl) (hval 2 _ v2 rfl rfl) h2
  have k3 := h3
  have lt3 : ∀ x ∈ p3, x.block < W.heap.size := by obtain ⟨m, hm⟩ := k3; exact DataW.trod_lt m _ _ _ hm
  obtain ⟨a3, o3, g3⟩ := arg_cell cInt (fun z => .c (.int .i64 z)) (fun _ => rfl) (by kernel_rfl) (hval 3 _ v3 rfl rfl) h3
  have k4 := h4
  have lt4 : ∀ x ∈ p4, x.block < W.heap.size := by obtain ⟨m, hm⟩ := k4; exact DataW.trod_lt m _ _ _ hm
  obtain ⟨a4, o4, g4⟩ := arg_cell cInt (fun z => .c (.int .i64 z)) (fun _ => rfl) (by kernel_rfl) (hval 4 _ v4 rfl rfl) h4
  have k5 := h5
  have lt5 : ∀ x ∈ p5, x.block < W.heap.size := by obtain ⟨m, hm⟩ := k5; exact DataW.trod_lt m _ _ _ hm
  obtain ⟨a5, o5, g5⟩ := arg_cell cInts (fun l => rowL cInt.enc cInt.sz l) (fun _ => rfl) (by kernel_rfl) (hval 5 _ v5 rfl rfl) h5
  clear hA0 hval0
  refine (lawAA a0 o0 a1 o1 a2 o2 a3 a4 o3 o4 a5).call rfl (gl_of_laid hL) (fun i x hx => ?_) fun v W' bel hv => ?_
  · match i, hx with
    | 0, hx => injection hx with hx; subst hx; exact g0
    | 1, hx => injection hx with hx; subst hx; exact g1
    | 2, hx => injection hx with hx; subst hx; exact g2
    | 3, hx => injection hx with hx; subst hx; exact g3
    | 4, hx => injection hx with hx; subst hx; exact g4
    | 5, hx => injection hx with hx; subst hx; exact g5
  cases hv
  exact ⟨_, rfl, _, _, _, [], _, [], hW', trodAll_mk1 (shut_bool (show Tryz.prog.underlying 4 = some .bool from by kernel_rfl) _), (trodAll_cons_mk (Below.trod laid_topAgreedAll (by kernel_rfl) (of_decide_eq_true (by kernel_rfl)) k0 bel lt0) (trodAll_cons_mk (Below.trod laid_topAgreedAll (by kernel_rfl) (of_decide_eq_true (by kernel_rfl)) k1 bel lt1) (trodAll_cons_mk (Below.trod laid_topAgreedAll (by kernel_rfl) (of_decide_eq_true (by kernel_rfl)) k2 bel lt2) (trodAll_cons_mk (Below.trod laid_topAgreedAll (by kernel_rfl) (of_decide_eq_true (by kernel_rfl)) k3 bel lt3) (trodAll_cons_mk (Below.trod laid_topAgreedAll (by kernel_rfl) (of_decide_eq_true (by kernel_rfl)) k4 bel lt4) (trodAll_cons_mk (Below.trod laid_topAgreedAll (by kernel_rfl) (of_decide_eq_true (by kernel_rfl)) k5 bel lt5) trodAll_mk0)))))), rfl, bel.frame _, fun h => by cases h⟩
theorem topAgreedAll_holds : Rows.TopAgreedAllSaid :=
  OpenClaim.holds_of_wide 3 Tryz.f3 rfl rfl rfl rfl rfl rfl rfl ⟨rfl, rfl, rfl, rfl, rfl⟩ rfl rfl rfl rfl rfl (by kernel_rfl) Tryz.func3 (by kernel_rfl)
    (of_decide_eq_true (by kernel_rfl)) (by unfold Func.isWrapper; first | (rw [if_pos (by decide +kernel)]; kernel_rfl) | (rw [if_neg (by decide +kernel)]; exact ⟨rfl, rfl⟩))
    (fun os started H enc _ => lifted_topAgreedAll os started H enc)
end
end Go.Proofs.YtlcfoelfcnhenaaGreatDoor
