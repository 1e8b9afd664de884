import Derived.Test.YtlcfoelfcnhenaaGreatDoorZz13
import Derived.KernelRfl
import Derived.Test.YtlcfoelfcnhenaaGreatDoorZz11
import Derived.ProofKit
import Derived.OpenShut
import Derived.ChangeOld
import Derived.Below
import Derived.Test.YtlcfoelfcnhenaaGreatDoorZz10
import Derived.Test.YtlcfoelfcnhenaaGreatDoorTys
set_option linter.unusedSimpArgs false
set_option linter.unusedVariables false
set_option maxRecDepth 10000
section
namespace Go.Eng
theorem tdivE (a b : Nat) : Int.tdiv (a : Int) (b : Int) = ((a / b : Nat) : Int) := rfl
theorem tmodE (a b : Nat) : Int.tmod (a : Int) (b : Int) = ((a % b : Nat) : Int) := rfl
section
variable {E : Env} {Q : Exit → ST → Prop} {ops : Array Oper} {o : Oper} {rest : List Oper} {f d : Nat} {args args1 args' : List AV} {res res1 : AV} {O O' : List Ob} {K : List Nat} {obs : List (Nat × Ob)} {fr : Nat → AV} {ob : Nat → Option Ob} {nx nt : Nat} {md : Nat → Bool} {P : Program} {k : List It} {tr0 : List (EffM × (List Nat × List Nat))} {T : TE}
theorem XK.rgnA (hT : TOk E.P T) {id : Nat} {ops : Array Oper} {fr fr' : Nat → AV} {ob ob' : Nat → Option Ob} {nx nt : Nat} {md : Nat → Bool} {obl obl' : List Prop} (hd : ops.toList.all (dstOk ⟨fun _ => .junk, fun _ => none, nx, nt, md⟩) = true)
    (hr : runF T ops.toList nx nt md [] fr ob ops.toList = ⟨obl, fr', ob', []⟩) (hf : frcR obl [] = some obl') (h : XK E k Q ⟨fr', ob', nx + nt, nt, md⟩)
    (ho : AllP obl' := by (first | exact trivial | (simp [AllP, impG]; done) | (simp only [AllP, List.append, List.nil_append, List.cons_append, inK, Go.Eng.tdivE, Go.Eng.tmodE, Int.toNat_natCast]; omega) | (simp [AllP, impG, inK, Go.Eng.tdivE, Go.Eng.tmodE]; omega) | ((repeat (first | (focus (first | omega | (intro i hi; first | rfl | (cases Nat.lt_one_iff.1 hi; rfl) | (rcases i with _ | _ | _ | _ | i <;> first | rfl | (exfalso; omega))) | (simp <;> omega))) | refine ⟨?_, ?_⟩)); done) | (simp only [AllP, impG, inK]; grind))) :
    XK E (.code (.region id ops false) :: k) Q ⟨fr, ob, nx, nt, md⟩ :=
  XK.rgn (hT := hT) (hd := hd) (hr := hr) (hf := hf) (ho := ho) (h := h)
theorem XK.rgnB (hT : TOk E.P T) (hm : E.P.follows .mixedOrders = true) {id : Nat} {fr fr' : Nat → AV} {ob ob' : Nat → Option Ob} {nx nt : Nat} {md : Nat → Bool} {obl obl' : List Prop} (hd : ops.toList.all (dstOk ⟨fun _ => .junk, fun _ => none, nx, nt, md⟩) = true)
    (hr : runF T ops.toList nx nt md [] fr ob ops.toList = ⟨obl, fr', ob', []⟩) (hf : frcR obl [] = some obl') (h : XK E k Q ⟨fr', ob', nx + nt, nt, md⟩)
    (hc : checkD [] [] ops.toList (runD T ops.toList nx nt md [] [] fr ob ops.toList).tr = true := by kernel_rfl)
    (ho : AllP obl' := by (first | exact trivial | (simp [AllP, impG]; done) | (simp only [AllP, List.append, List.nil_append, List.cons_append, inK, Go.Eng.tdivE, Go.Eng.tmodE, Int.toNat_natCast]; omega) | (simp [AllP, impG, inK, Go.Eng.tdivE, Go.Eng.tmodE]; omega) | ((repeat (first | (focus (first | omega | (intro i hi; first | rfl | (cases Nat.lt_one_iff.1 hi; rfl) | (rcases i with _ | _ | _ | _ | i <;> first | rfl | (exfalso; omega))) | (simp <;> omega))) | refine ⟨?_, ?_⟩)); done) | (simp only [AllP, impG, inK]; grind))) :
    XK E (.code (.region id ops true) :: k) Q ⟨fr, ob, nx, nt, md⟩ :=
  XK.rgnD (hT := hT) (hm := hm) (hd := hd) (hr := hr) (hf := hf) (hc := hc) (ho := ho) (h := h)
theorem XL.goA (hT : TOk E.P T) {ops : Array Oper} {l rest : List Oper} {fr fr' : Nat → AV} {ob ob' : Nat → Option Ob} {nx nt : Nat} {md : Nat → Bool} {obl obl' : List Prop} (hd : ops.toList.all (dstOk ⟨fun _ => .junk, fun _ => none, nx, nt, md⟩) = true)
    (hm : ops.toList.drop (ops.toList.length - l.length) = l) (hr : runF T ops.toList nx nt md [] fr ob l = ⟨obl, fr', ob', rest⟩) (hf : frcR obl [] = some obl') (h : XL E ops Q rest ⟨fr', ob', nx, nt, md⟩)
    (ho : AllP obl' := by (first | exact trivial | (simp [AllP, impG]; done) | (simp only [AllP, List.append, List.nil_append, List.cons_append, inK, Go.Eng.tdivE, Go.Eng.tmodE, Int.toNat_natCast]; omega) | (simp [AllP, impG, inK, Go.Eng.tdivE, Go.Eng.tmodE]; omega) | ((repeat (first | (focus (first | omega | (intro i hi; first | rfl | (cases Nat.lt_one_iff.1 hi; rfl) | (rcases i with _ | _ | _ | _ | i <;> first | rfl | (exfalso; omega))) | (simp <;> omega))) | refine ⟨?_, ?_⟩)); done) | (simp only [AllP, impG, inK]; grind))) : XL E ops Q l ⟨fr, ob, nx, nt, md⟩ :=
  XL.go (hT := hT) (hd := hd) (hm := hm) (hr := hr) (hf := hf) (ho := ho) (h := h)
theorem XD.goA (hT : TOk E.P T) {l rest : List Oper} {fr fr' : Nat → AV} {ob ob' : Nat → Option Ob} {nx nt : Nat} {md : Nat → Bool} {obl obl' : List Prop} (hd : ops.toList.all (dstOk ⟨fun _ => .junk, fun _ => none, nx, nt, md⟩) = true)
    (hm : ops.toList.drop (ops.toList.length - l.length) = l) (hr : runF T ops.toList nx nt md [] fr ob l = ⟨obl, fr', ob', rest⟩) (hf : frcR obl [] = some obl') (h : XD E ops Q k (runD T ops.toList nx nt md [] tr0 fr ob l).tr rest ⟨fr', ob', nx, nt, md⟩)
    (ho : AllP obl' := by (first | exact trivial | (simp [AllP, impG]; done) | (simp only [AllP, List.append, List.nil_append, List.cons_append, inK, Go.Eng.tdivE, Go.Eng.tmodE, Int.toNat_natCast]; omega) | (simp [AllP, impG, inK, Go.Eng.tdivE, Go.Eng.tmodE]; omega) | ((repeat (first | (focus (first | omega | (intro i hi; first | rfl | (cases Nat.lt_one_iff.1 hi; rfl) | (rcases i with _ | _ | _ | _ | i <;> first | rfl | (exfalso; omega))) | (simp <;> omega))) | refine ⟨?_, ?_⟩)); done) | (simp only [AllP, impG, inK]; grind))) : XD E ops Q k tr0 l ⟨fr, ob, nx, nt, md⟩ :=
  XD.go (hT := hT) (hd := hd) (hm := hm) (hr := hr) (hf := hf) (ho := ho) (h := h)
theorem XL.callLA (hE : E.P = P) (hc : callF ⟨fr, ob, nx, nt, md⟩ o.op = some (f, args)) (hg : o.guard = none) (hds : o.dst = some d) (hd : Nat.blt d nt = true) (ho : AllP (o.op.operands.toList.flatMap (fun x => oblG none (ST.ev ⟨fr, ob, nx, nt, md⟩ x))))
    (hfa : frcL (AV.lendL ob args) = some args1) (hP : Does P f args' res) (hfl : res.flat = true) (h : XL E ops Q rest ⟨upd fr d res, ob, nx, nt, md⟩)
    (ha : AvIsL args1 args' := by ((repeat' (first | exact rfl | exact AvIs.refl _ | exact trivial | (intro i hi; rfl) | exact fun _ _ => ⟨rfl, AvIs.refl _⟩ | (intro i hi; rcases i with _ | _ | _ | _ | _ | _ | _ | i <;> first | rfl | (exfalso; omega)) | refine ⟨?_, ?_⟩)); done)) : XL E ops Q (o :: rest) ⟨fr, ob, nx, nt, md⟩ :=
  XL.callL (hE := hE) (hc := hc) (hg := hg) (hds := hds) (hd := hd) (ho := ho) (hfa := hfa) (hP := hP) (ha := ha) (hfl := hfl) (h := h)
theorem XL.callKA (hE : E.P = P) (hc : callF ⟨fr, ob, nx, nt, md⟩ o.op = some (f, args)) (hg : o.guard = none) (hds : o.dst = some d) (hd : Nat.blt d nt = true) (ho : AllP (o.op.operands.toList.flatMap (fun x => oblG none (ST.ev ⟨fr, ob, nx, nt, md⟩ x))))
    (hfa : frcL args = some args1) (hks : AV.ksL (fun _ => false) args1 = true) (hP : Does P f args' res) (h : XL E ops Q rest ⟨upd fr d res, ob, nx, nt, md⟩)
    (ha : AvIsL args1 args' := by ((repeat' (first | exact rfl | exact AvIs.refl _ | exact trivial | (intro i hi; rfl) | exact fun _ _ => ⟨rfl, AvIs.refl _⟩ | (intro i hi; rcases i with _ | _ | _ | _ | _ | _ | _ | i <;> first | rfl | (exfalso; omega)) | refine ⟨?_, ?_⟩)); done)) : XL E ops Q (o :: rest) ⟨fr, ob, nx, nt, md⟩ :=
  XL.callK (hE := hE) (hc := hc) (hg := hg) (hds := hds) (hd := hd) (ho := ho) (hfa := hfa) (hks := hks) (hP := hP) (ha := ha) (h := h)
theorem XL.callMA (K : List Nat) (hE : E.P = P) (hc : callF ⟨fr, ob, nx, nt, md⟩ o.op = some (f, args)) (hg : o.guard = none) (hds : o.dst = some d) (hdl : Nat.blt d nt = true) (ho : AllP (o.op.operands.toList.flatMap (fun x => oblG none (ST.ev ⟨fr, ob, nx, nt, md⟩ x))))
    (hP : DoesM P f args' O res O') (hfa : frcL (AV.mapL (renG (posF (K.take O.length))) args) = some args1) (hd : nodupB K = true) (hnew : (K.drop O.length).all (fun k => (ob k).isNone) = true) (hob : backF (renG (fun i => K[i]?)) K O' = some obs) (hres : frc (res.map (renG (fun i => K[i]?))) = some res1)
    (h : XL E ops Q rest ⟨upd fr d res1, putAll ob obs, nx, nt, md⟩)
    (ha : AvIsL args1 args' := by ((repeat' (first | exact rfl | exact AvIs.refl _ | exact trivial | (intro i hi; rfl) | exact fun _ _ => ⟨rfl, AvIs.refl _⟩ | (intro i hi; rcases i with _ | _ | _ | _ | _ | _ | _ | i <;> first | rfl | (exfalso; omega)) | refine ⟨?_, ?_⟩)); done))
    (hv : ViewIs ob (posF (K.take O.length)) (K.take O.length) O := by ((repeat' (first | exact rfl | exact AvIs.refl _ | exact trivial | (intro i hi; rfl) | exact fun _ _ => ⟨rfl, AvIs.refl _⟩ | (intro i hi; rcases i with _ | _ | _ | _ | _ | _ | _ | i <;> first | rfl | (exfalso; omega)) | refine ⟨?_, ?_⟩)); done)) : XL E ops Q (o :: rest) ⟨fr, ob, nx, nt, md⟩ :=
  XL.callM (K := K) (hE := hE) (hc := hc) (hg := hg) (hds := hds) (hdl := hdl) (ho := ho) (hP := hP) (hfa := hfa) (ha := ha) (hd := hd) (hv := hv) (hnew := hnew) (hob := hob) (hres := hres) (h := h)
theorem XD.callLA (hE : E.P = P) (hc : callF ⟨fr, ob, nx, nt, md⟩ o.op = some (f, args)) (hg : o.guard = none) (hds : o.dst = some d) (hd : Nat.blt d nt = true) (ho : AllP (o.op.operands.toList.flatMap (fun x => oblG none (ST.ev ⟨fr, ob, nx, nt, md⟩ x))))
    (hfa : frcL (AV.lendL ob args) = some args1) (hP : Does P f args' res) (hfl : res.flat = true) (h : XD E ops Q k (tr0 ++ [(⟨res, []⟩, fpF ops.toList ⟨fr, ob, nx, nt, md⟩ o)]) rest ⟨upd fr d res, ob, nx, nt, md⟩)
    (ha : AvIsL args1 args' := by ((repeat' (first | exact rfl | exact AvIs.refl _ | exact trivial | (intro i hi; rfl) | exact fun _ _ => ⟨rfl, AvIs.refl _⟩ | (intro i hi; rcases i with _ | _ | _ | _ | _ | _ | _ | i <;> first | rfl | (exfalso; omega)) | refine ⟨?_, ?_⟩)); done)) : XD E ops Q k tr0 (o :: rest) ⟨fr, ob, nx, nt, md⟩ :=
  XD.callL (hE := hE) (hc := hc) (hg := hg) (hds := hds) (hd := hd) (ho := ho) (hfa := hfa) (hP := hP) (ha := ha) (hfl := hfl) (h := h)
theorem XD.callKA (hE : E.P = P) (hc : callF ⟨fr, ob, nx, nt, md⟩ o.op = some (f, args)) (hg : o.guard = none) (hds : o.dst = some d) (hd : Nat.blt d nt = true) (ho : AllP (o.op.operands.toList.flatMap (fun x => oblG none (ST.ev ⟨fr, ob, nx, nt, md⟩ x))))
    (hfa : frcL args = some args1) (hks : AV.ksL (fun _ => false) args1 = true) (hP : Does P f args' res) (h : XD E ops Q k (tr0 ++ [(⟨res, []⟩, fpF ops.toList ⟨fr, ob, nx, nt, md⟩ o)]) rest ⟨upd fr d res, ob, nx, nt, md⟩)
    (ha : AvIsL args1 args' := by ((repeat' (first | exact rfl | exact AvIs.refl _ | exact trivial | (intro i hi; rfl) | exact fun _ _ => ⟨rfl, AvIs.refl _⟩ | (intro i hi; rcases i with _ | _ | _ | _ | _ | _ | _ | i <;> first | rfl | (exfalso; omega)) | refine ⟨?_, ?_⟩)); done)) : XD E ops Q k tr0 (o :: rest) ⟨fr, ob, nx, nt, md⟩ :=
  XD.callK (hE := hE) (hc := hc) (hg := hg) (hds := hds) (hd := hd) (ho := ho) (hfa := hfa) (hks := hks) (hP := hP) (ha := ha) (h := h)
theorem XD.callMA (K : List Nat) (hE : E.P = P) (hc : callF ⟨fr, ob, nx, nt, md⟩ o.op = some (f, args)) (hg : o.guard = none) (hds : o.dst = some d) (hdl : Nat.blt d nt = true) (ho : AllP (o.op.operands.toList.flatMap (fun x => oblG none (ST.ev ⟨fr, ob, nx, nt, md⟩ x))))
    (hP : DoesM P f args' O res O') (hfa : frcL (AV.mapL (renG (posF (K.take O.length))) args) = some args1) (hd : nodupB K = true) (hnew : (K.drop O.length).all (fun k => (ob k).isNone) = true) (hob : backF (renG (fun i => K[i]?)) K O' = some obs) (hres : frc (res.map (renG (fun i => K[i]?))) = some res1)
    (h : XD E ops Q k (tr0 ++ [(⟨res1, obs⟩, fpK ops.toList o K)]) rest ⟨upd fr d res1, putAll ob obs, nx, nt, md⟩)
    (ha : AvIsL args1 args' := by ((repeat' (first | exact rfl | exact AvIs.refl _ | exact trivial | (intro i hi; rfl) | exact fun _ _ => ⟨rfl, AvIs.refl _⟩ | (intro i hi; rcases i with _ | _ | _ | _ | _ | _ | _ | i <;> first | rfl | (exfalso; omega)) | refine ⟨?_, ?_⟩)); done))
    (hv : ViewIs ob (posF (K.take O.length)) (K.take O.length) O := by ((repeat' (first | exact rfl | exact AvIs.refl _ | exact trivial | (intro i hi; rfl) | exact fun _ _ => ⟨rfl, AvIs.refl _⟩ | (intro i hi; rcases i with _ | _ | _ | _ | _ | _ | _ | i <;> first | rfl | (exfalso; omega)) | refine ⟨?_, ?_⟩)); done)) : XD E ops Q k tr0 (o :: rest) ⟨fr, ob, nx, nt, md⟩ :=
  XD.callM (K := K) (hE := hE) (hc := hc) (hg := hg) (hds := hds) (hdl := hdl) (ho := ho) (hP := hP) (hfa := hfa) (ha := ha) (hd := hd) (hv := hv) (hnew := hnew) (hob := hob) (hres := hres) (h := h)
theorem XL.callGA {j : Nat} {pol g : Bool} (hE : E.P = P) (hc : callF ⟨fr, ob, nx, nt, md⟩ o.op = some (f, args)) (hg : o.guard = some (j, pol)) (hgv : gval ⟨fr, ob, nx, nt, md⟩ ops.toList j pol = some g) (hds : o.dst = some d) (hd : Nat.blt d nt = true) (hda : ops.toList.all (dstOk ⟨fun _ => .junk, fun _ => none, nx, nt, md⟩) = true)
    {obl' : List Prop} (hf : frcP (o.op.operands.toList.flatMap (fun x => oblG (some g) (ST.ev ⟨fr, ob, nx, nt, md⟩ x))) = some obl')
    (hfa : frcL (AV.lendL ob args) = some args1) (hP : Does P f args' res) (hfl : res.flat = true) (h : XL E ops Q rest ⟨upd fr d (.gd g res), ob, nx, nt, md⟩)
    (ho : AllP obl' := by (first | (simp [AllP, impG]; done) | (simp only [AllP, impG]; grind))) (ha : AvIsL args1 args' := by ((repeat' (first | exact rfl | exact AvIs.refl _ | exact trivial | (intro i hi; rfl) | exact fun _ _ => ⟨rfl, AvIs.refl _⟩ | (intro i hi; rcases i with _ | _ | _ | _ | _ | _ | _ | i <;> first | rfl | (exfalso; omega)) | refine ⟨?_, ?_⟩)); done)) : XL E ops Q (o :: rest) ⟨fr, ob, nx, nt, md⟩ :=
  XL.callLG hE hc hg hgv hds hd hda hf ho hfa (fun _ => ⟨hP, ha⟩) hfl h
theorem XD.callGA {j : Nat} {pol g : Bool} (hE : E.P = P) (hc : callF ⟨fr, ob, nx, nt, md⟩ o.op = some (f, args)) (hg : o.guard = some (j, pol)) (hgv : gval ⟨fr, ob, nx, nt, md⟩ ops.toList j pol = some g) (hds : o.dst = some d) (hd : Nat.blt d nt = true) (hda : ops.toList.all (dstOk ⟨fun _ => .junk, fun _ => none, nx, nt, md⟩) = true)
    {obl' : List Prop} (hf : frcP (o.op.operands.toList.flatMap (fun x => oblG (some g) (ST.ev ⟨fr, ob, nx, nt, md⟩ x))) = some obl')
    (hfa : frcL args = some args1) (hks : AV.ksL (fun _ => false) args1 = true) (hP : Does P f args' res) (hfl : res.flat = true) (h : XD E ops Q k (tr0 ++ [(⟨.gd g res, []⟩, fpF ops.toList ⟨fr, ob, nx, nt, md⟩ o)]) rest ⟨upd fr d (.gd g res), ob, nx, nt, md⟩)
    (ho : AllP obl' := by (first | (simp [AllP, impG]; done) | (simp only [AllP, impG]; grind))) (ha : AvIsL args1 args' := by ((repeat' (first | exact rfl | exact AvIs.refl _ | exact trivial | (intro i hi; rfl) | exact fun _ _ => ⟨rfl, AvIs.refl _⟩ | (intro i hi; rcases i with _ | _ | _ | _ | _ | _ | _ | i <;> first | rfl | (exfalso; omega)) | refine ⟨?_, ?_⟩)); done)) : XD E ops Q k tr0 (o :: rest) ⟨fr, ob, nx, nt, md⟩ :=
  XD.callKG hE hc hg hgv hds hd hda hf ho hfa hks (fun _ => ⟨hP, ha⟩) hfl h
end
end Go.Eng
end
section
namespace Go.Eng
theorem SatR.setFr {E : Env} {st : ST} {a : Act} {w : World} {ρ : Rho} (h : SatR E st a w ρ) {d : Nat} {x : AV} (hx : R w (E.good w ρ) ρ x (a.tmps.getD d undef)) : SatR E { st with fr := upd st.fr d x } a w ρ :=
  ⟨h.keep, h.tsz, h.dfr, h.gl, fun k => by
    by_cases hk : k = d
    · subst hk; simp only [upd_same]; exact hx
    · simp only [upd_other _ _ hk]; exact h.fr k, h.ob, h.no, h.dis, h.own, h.le⟩
theorem XK.rsNil {E : Env} {st : ST} {k : List It} {c : Code} {Q : Exit → ST → Prop} (d : Nat) {sz : Nat} {f : Nat → List AV} (hd : st.fr d = .rs sz 0 f)
    (h : ∀ A cap, cap ≤ maxLen → XK E (.code c :: k) Q { st with fr := upd st.fr d (.c (.slice A 0 cap)) }) : XK E (.code c :: k) Q st := by
  intro a w ⟨ρ, hs⟩
  have hr := hs.fr d
  rw [hd] at hr
  obtain ⟨A, cap, hv, _, hm, _, _⟩ := hr.rs_inv
  refine h A cap hm a w ⟨ρ, hs.setFr ?_⟩
  rw [hv]
  exact .c
theorem Weak.rsNil {E : Env} {st : ST} (d : Nat) (sz : Nat) (f : Nat → List AV) {A : Option Addr} {cap : Nat} (hc : cap ≤ maxLen) (hd : st.fr d = .c (.slice A 0 cap)) : Weak E st { st with fr := upd st.fr d (.rs sz 0 f) } := by
  intro a w ⟨ρ, hs⟩
  refine ⟨ρ, hs.setFr ?_⟩
  have hr := hs.fr d
  rw [hd] at hr
  rw [hr.c_inv]
  exact R.rs_mk (Nat.zero_le _) hc (fun i hi => absurd hi (Nat.not_lt_zero _)) (fun h => absurd h (Nat.not_lt_zero _))
section
variable {E : Env} {st : ST}
theorem LocalM.yieldMG {ops : Array Oper} {o : Oper} {j l : Nat} {pol g : Bool} {args args1 args' : List AV} {res res1 : AV} {O O' : List Ob} {K : List Nat} {obs : List (Nat × Ob)} (hc : yieldF st o.op = some (l, args)) (hg : o.guard = some (j, pol)) (hgv : gval st ops.toList j pol = some g) (hgt : g = true) (hdst : dstOk st o = true) (hda : ops.toList.all (dstOk st) = true)
    (ho : AllP (o.op.operands.toList.flatMap (fun x => oblG (some g) (st.ev x))))
    (hP : DoesR E.P l args' O res O') (hfa : frcL (AV.mapL (renG (posF (K.take O.length))) args) = some args1) (ha : AvIsL args1 args') (hd : nodupB K = true)
    (hv : ViewIs st.ob (posF (K.take O.length)) (K.take O.length) O) (hnew : (K.drop O.length).all (fun k => (st.ob k).isNone) = true) (hob : backF (renG (fun i => K[i]?)) K O' = some obs) (hres : frc (res.map (renG (fun i => K[i]?))) = some res1) :
    LocalM E ops o st ⟨res1, obs⟩ (fpK ops.toList o K) := by
  intro s' hag
  have hev := ev_agreeK hag
  have hK : ∀ k ∈ K, s'.ob k = st.ob k := fun k hk => hag.2.2.2.2 k hk
  have hda' : ops.toList.all (dstOk s') = true := by
    rw [← hda]
    exact all_congr fun z _ => by simp [dstOk, hag.2.1]
  refine StepTo.yieldMG ((yieldF_congr hev).trans hc) hg ((gval_agreeK hg hag).trans hgv) hgt (by simpa [dstOk, hag.2.1] using hdst) hda' (by rw [obl_congr hev]; exact ho) hP hfa ha hd (hv.congr fun k hk => hK k (List.mem_of_mem_take hk)) ?_ hob hres
  rw [← hnew]
  exact all_congr fun k hk => by rw [hK k (List.mem_of_mem_drop hk)]
end
section
variable {E : Env} {Q : Exit → ST → Prop} {ops : Array Oper} {o : Oper} {rest : List Oper} {l d : Nat} {args args1 args' : List AV} {res res1 : AV} {O O' : List Ob} {K : List Nat} {obs : List (Nat × Ob)} {fr : Nat → AV} {ob : Nat → Option Ob} {nx nt : Nat} {md : Nat → Bool} {P : Program} {k : List It} {tr0 : List (EffM × (List Nat × List Nat))}
theorem XD.yieldMG {j : Nat} {pol g : Bool} (K : List Nat) (x : AV) (hE : E.P = P) (hc : yieldF ⟨fr, ob, nx, nt, md⟩ o.op = some (l, args)) (hg : o.guard = some (j, pol)) (hgv : gval ⟨fr, ob, nx, nt, md⟩ ops.toList j pol = some g) (hds : o.dst = some d) (hdl : Nat.blt d nt = true) (hda : ops.toList.all (dstOk ⟨fun _ => .junk, fun _ => none, nx, nt, md⟩) = true)
    (hf : g = false → XD E ops Q k (tr0 ++ [(⟨.gd false x, []⟩, fpK ops.toList o [])]) rest ⟨upd fr d (.gd false x), ob, nx, nt, md⟩)
    {obl' : List Prop} (hfo : frcP (o.op.operands.toList.flatMap (fun x => oblG (some g) (ST.ev ⟨fr, ob, nx, nt, md⟩ x))) = some obl') (ho : g = true → AllP obl')
    (hP : g = true → DoesR P l args' O res O') (hfa : frcL (AV.mapL (renG (posF (K.take O.length))) args) = some args1) (ha : AvIsL args1 args') (hd : nodupB K = true)
    (hv : g = true → ViewIs ob (posF (K.take O.length)) (K.take O.length) O) (hnew : (K.drop O.length).all (fun k => (ob k).isNone) = true) (hob : backF (renG (fun i => K[i]?)) K O' = some obs) (hres : frc (res.map (renG (fun i => K[i]?))) = some res1)
    (h : g = true → XD E ops Q k (tr0 ++ [(⟨res1, obs⟩, fpK ops.toList o K)]) rest ⟨upd fr d res1, putAll ob obs, nx, nt, md⟩) : XD E ops Q k tr0 (o :: rest) ⟨fr, ob, nx, nt, md⟩ := by
  cases hgb : g with
  | false =>
    refine XD.stepM (LocalM.skip x hg hgv hgb (by simp [dstOk, hds, hdl]) hda) ?_
    rw [hds]; exact hf hgb
  | true =>
    refine XD.stepM (LocalM.yieldMG hc hg hgv hgb (by simp [dstOk, hds, hdl]) hda (frcP_eq hfo ▸ ho hgb) (hE ▸ hP hgb) hfa ha hd (hv hgb) hnew hob hres) ?_
    rw [hds]; exact h hgb
end
theorem XK.exitQ {E : Env} {Q : Exit → ST → Prop} {st : ST} {k : List It} {id : Nat} (h : XQ E k Q (.exit id) st) : XK E (.code (.exit id) :: k) Q st := fun _ _ hs => wpIn_exit ⟨st, hs, h⟩
theorem XK.outX {E : Env} {fr : Nat → AV} {ob : Nat → Option Ob} {nx nt n : Nat} {md : Nat → Bool} {L : Nat} {fn : FuncId} {ps : Array Tmp} {assign body : Code} {D : Nat} {cs : List AV} {O1 O' : List Ob} {bb : Bool} {mk' : Array Value → Obj} {id : Nat} (K : List Nat) (hN : E.N = n) (hd : nodupB K = true) (hn : (List.range n).all (fun i => match K[i]? with
    | some k => Nat.beq k i
    | none => false) = true) (hO : obsF ob (renG (posF K)) K = some O1) (hOO : ObAll O1 (.lrec (recOf fn ps assign body D .busy none) L cs :: O')) (hb : false = bb) (hmk : recOf fn ps assign body D .done (some (.exit id)) = mk') :
    RndT E L fn ps assign body D cs O' bb mk' (.exit id) ⟨fr, ob, nx, nt, md⟩ :=
  ⟨some (.exit id), ⟨.inr (.inr ⟨id, rfl, rfl⟩), _, Weak.names K hN hd hn hO hOO, rfl⟩, hb, hmk⟩
end Go.Eng
end
section
namespace Go.Eng
set_option linter.unnecessarySimpa false
open Go.WideShapes
def Lies (w : World) (l : List AV) (cs : List Value) : Prop := cs.length = l.length ∧ ∀ i x, l[i]? = some x → R w (fun b => b < w.heap.size) Rho.none x (cs.getD i undef)
structure Codec (P : Program) (t : Nat) (α : Type) where
  enc : α → List AV
  ok : α → Prop
  sz : Nat
  cells : P.cellsOf t = sz
  len : ∀ a, (enc a).length = sz
  open_ : ∀ {H : Type} {e : TypeId × Value → H} {w : World} {base : Nat} {spare : Nat → Bool} {held : Bool} {fuel : Nat} {cs : List Value} {x : DataW H × List MemPlace},
    DataW.trod e P w base spare held fuel t cs = some x → ∃ a, ok a ∧ Lies w (enc a) cs
theorem lies_one {w : World} {x : AV} {v : Value} (h : R w (fun b => b < w.heap.size) Rho.none x v) : Lies w [x] [v] :=
  ⟨rfl, fun i y hy => by
    match i with
    | 0 => simp at hy; subst hy; exact h
    | i + 1 => simp at hy⟩
theorem lies_app {w : World} {l l' : List AV} {cs cs' : List Value} (h : Lies w l cs) (h' : Lies w l' cs') : Lies w (l ++ l') (cs ++ cs') := by
  refine ⟨by simp [h.1, h'.1], fun i x hx => ?_⟩
  by_cases hi : i < l.length
  · rw [List.getElem?_append_left hi] at hx
    have := h.2 i x hx
    have hi' : i < cs.length := by rw [h.1]; exact hi
    simpa [List.getElem?_append_left hi'] using this
  · rw [List.getElem?_append_right (by omega)] at hx
    have := h'.2 _ x hx
    have hi' : cs.length ≤ i := by rw [h.1]; omega
    rw [← h.1] at this
    simpa [List.getElem?_append_right hi'] using this
theorem inK_of_wf {k : IntKind} {n : Int} (h : (Lit.int k n).wf = true) : inK k n := by
  cases k <;> simp only [Lit.wf, IntKind.min, IntKind.max, IntKind.signed, IntKind.bits, Bool.and_eq_true, decide_eq_true_eq, inK] at h ⊢ <;> simp at h <;> omega
section
variable {P : Program} {t : Nat} {α : Type}
def Codec.int (k : IntKind) (ht : P.underlying t = some (.int k)) (hc : P.cellsOf t = 1) : Codec P t Int :=
  { enc := fun n => [.c (.int k n)], ok := inK k, sz := 1, cells := hc, len := fun _ => rfl,
    open_ := fun h => by
      obtain ⟨n, rfl, _, hw⟩ := DataW.trod_int ht h
      exact ⟨n, inK_of_wf hw, lies_one .c⟩ }
def Codec.bool (ht : P.underlying t = some .bool) (hc : P.cellsOf t = 1) : Codec P t Bool :=
  { enc := fun n => [.c (.bool n)], ok := fun _ => True, sz := 1, cells := hc, len := fun _ => rfl,
    open_ := fun h => by
      obtain ⟨n, rfl, _⟩ := DataW.trod_bool ht h
      exact ⟨n, trivial, lies_one .c⟩ }
def Codec.str (ht : P.underlying t = some .string) (hc : P.cellsOf t = 1) : Codec P t ByteArray :=
  { enc := fun n => [.c (.string n)], ok := fun s => s.size ≤ maxLen, sz := 1, cells := hc, len := fun _ => rfl,
    open_ := fun h => by
      obtain ⟨n, rfl, _, hm⟩ := DataW.trod_string ht h
      exact ⟨n, hm, lies_one .c⟩ }
def rowL [Inhabited α] (enc : α → List AV) (sz : Nat) (l : List α) : AV := .rs sz l.length (fun i => enc (l.getD i default))
theorem slice_opens [Inhabited α] {e : Nat} (c : Codec P e α) (ht : P.underlying t = some (.slice e)) (hpos : 0 < c.sz) {H : Type} {en : TypeId × Value → H} {w : World} {base : Nat} {spare : Nat → Bool} {held : Bool} {fuel : Nat} {cs : List Value} {x : DataW H × List MemPlace}
    (h : DataW.trod en P w base spare held fuel t cs = some x) : ∃ l : List α, (∀ a ∈ l, c.ok a) ∧ ∃ v, cs = [v] ∧ R w (fun b => b < w.heap.size) Rho.none (rowL c.enc c.sz l) v := by
  rcases DataW.trod_slice ht h with ⟨rfl, _⟩ | ⟨a, len, cap, elems, rest, n, rfl, rfl, _, hb, hl, hm, hel, hat, _, _⟩
  · refine ⟨[], (fun a h => by cases h), _, rfl, ?_⟩
    exact .rs (fun _ _ => undef) (Nat.le_refl _) (Nat.zero_le _) (fun h => absurd h (by simp)) (fun i hi => absurd hi (by simp)) (fun i j x hi => absurd hi (by simp))
  · have key : ∀ i, i < len → ∃ al, c.ok al ∧ ∃ ec, w.cells? base (a.add (i * c.sz)) c.sz = some ec ∧ Lies w (c.enc al) ec := by
      intro i hi
      have h1 := hat i hi
      rw [List.getElem?_eq_getElem (hel ▸ hi)] at h1
      rw [Option.bind_eq_some_iff] at h1
      obtain ⟨ec, h2, h3⟩ := h1
      obtain ⟨al, h4, h5⟩ := c.open_ h3
      rw [c.cells] at h2
      exact ⟨al, h4, ec, h2, h5⟩
    let f : Nat → α := fun i => if hi : i < len then (key i hi).choose else default
    have hf : ∀ i, i < len → c.ok (f i) ∧ ∃ ec, w.cells? base (a.add (i * c.sz)) c.sz = some ec ∧ Lies w (c.enc (f i)) ec := by
      intro i hi
      have : f i = (key i hi).choose := by simp only [f, dif_pos hi]
      rw [this]
      exact (key i hi).choose_spec
    have hg : ∀ i, i < len → ((List.range len).map f).getD i default = f i := by
      intro i hi
      simp [List.getElem?_map, List.getElem?_range hi]
    refine ⟨(List.range len).map f, ?_, _, rfl, ?_⟩
    · intro al hal
      obtain ⟨i, hi, rfl⟩ := List.mem_map.1 hal
      exact (hf i (by simpa using hi)).1
    · have hcell : ∀ i j, i < len → j < c.sz → ∃ v, w.cell? (a.add (i * c.sz + j)) = some v ∧ ∀ x, (c.enc (f i))[j]? = some x → R w (fun b => b < w.heap.size) Rho.none x v := by
        intro i j hi hj
        obtain ⟨_, ec, h2, h3⟩ := hf i hi
        obtain ⟨_, h5, h6⟩ := World.cells?_some h2
        have hlen : ec.length = c.sz := by rw [h3.1, c.len]
        have h7 := h6 j hj
        rw [add_add, List.getElem?_eq_getElem (by omega)] at h7
        refine ⟨ec[j], h7, fun x hx => ?_⟩
        have := h3.2 j x hx
        simpa [List.getElem?_eq_getElem (show j < ec.length by omega)] using this
      let val : Nat → Nat → Value := fun i j => if hh : i < len ∧ j < c.sz then (hcell i j hh.1 hh.2).choose else undef
      have hval : ∀ i j, i < len → j < c.sz → w.cell? (a.add (i * c.sz + j)) = some (val i j) ∧ ∀ x, (c.enc (f i))[j]? = some x → R w (fun b => b < w.heap.size) Rho.none x (val i j) := by
        intro i j hi hj
        have : val i j = (hcell i j hi hj).choose := by simp only [val, dif_pos (And.intro hi hj)]
        rw [this]
        exact (hcell i j hi hj).choose_spec
      have hblk : 0 < len → a.block < w.heap.size := by
        intro h0
        have := (hval 0 0 h0 hpos).1
        unfold World.cell? at this
        split at this
        · rename_i hh
          rw [block_add] at hh
          exact (Array.getElem?_eq_some_iff.1 hh).1
        · cases this
      unfold rowL
      rw [show ((List.range len).map f).length = len by simp]
      refine .rs val hl hm (fun h0 => ?_) (fun i hi => c.len _) (fun i j x hi hx => ?_)
      · refine ⟨a, rfl, hblk h0, fun i j hi hj => (hval i j hi hj).1⟩
      · have hi' : i < len := hi
        rw [hg i hi'] at hx
        have hj : j < c.sz := by
          rw [← c.len (f i)]
          exact (List.getElem?_eq_some_iff.1 hx).1
        exact (hval i j hi' hj).2 x hx
def Codec.slice [Inhabited α] {e : Nat} (c : Codec P e α) (ht : P.underlying t = some (.slice e)) (hpos : 0 < c.sz) (hc : P.cellsOf t = 1) : Codec P t (List α) :=
  { enc := fun l => [rowL c.enc c.sz l], ok := fun l => ∀ a ∈ l, c.ok a, sz := 1, cells := hc, len := fun _ => rfl,
    open_ := fun h => by
      obtain ⟨l, h1, v, rfl, h2⟩ := slice_opens c ht hpos h
      exact ⟨l, h1, lies_one h2⟩ }
def Codec.map {β : Type} (c : Codec P t α) (f : α → β) (enc : β → List AV) (ok : β → Prop) (h : ∀ a, enc (f a) = c.enc a) (hl : ∀ b, (enc b).length = c.sz) (hok : ∀ a, c.ok a → ok (f a)) : Codec P t β :=
  { enc := enc, ok := ok, sz := c.sz, cells := c.cells, len := hl,
    open_ := fun hh => by
      obtain ⟨a, h1, h2⟩ := c.open_ hh
      exact ⟨f a, hok a h1, by rw [h]; exact h2⟩ }
structure FCodec (P : Program) (off : Nat) (fs : List (Nat × Nat)) (α : Type) where
  enc : α → List AV
  ok : α → Prop
  sz : Nat
  len : ∀ a, (enc a).length = sz
  open_ : ∀ {H : Type} {e : TypeId × Value → H} {w : World} {base : Nat} {spare : Nat → Bool} {held : Bool} {fuel : Nat} {cs : List Value}, off + sz ≤ cs.length →
    (∀ f ∈ fs, ∃ x, DataW.trod e P w base spare held fuel f.2 ((cs.drop f.1).take (P.cellsOf f.2)) = some x) → ∃ a, ok a ∧ Lies w (enc a) ((cs.drop off).take sz)
def FCodec.nil (P : Program) (off : Nat) : FCodec P off [] Unit :=
  { enc := fun _ => [], ok := fun _ => True, sz := 0, len := fun _ => rfl, open_ := fun _ _ => ⟨(), trivial, by simp [Lies]⟩ }
def FCodec.cons {off t : Nat} {fs : List (Nat × Nat)} {α β : Type} (c : Codec P t α) (r : FCodec P (off + c.sz) fs β) : FCodec P off ((off, t) :: fs) (α × β) :=
  { enc := fun x => c.enc x.1 ++ r.enc x.2, ok := fun x => c.ok x.1 ∧ r.ok x.2, sz := c.sz + r.sz, len := fun x => by simp [c.len, r.len],
    open_ := fun {H e w base spare held fuel cs} hlen hfs => by
      obtain ⟨x, hx⟩ := hfs (off, t) (by simp)
      rw [c.cells] at hx
      obtain ⟨a, h1, h2⟩ := c.open_ hx
      obtain ⟨b, h3, h4⟩ := r.open_ (cs := cs) (by omega) (fun g hg => hfs g (by simp [hg]))
      refine ⟨(a, b), ⟨h1, h3⟩, ?_⟩
      have : (cs.drop off).take (c.sz + r.sz) = (cs.drop off).take c.sz ++ (cs.drop (off + c.sz)).take r.sz := by
        rw [List.take_add, List.drop_drop]
      rw [this]
      exact lies_app h2 h4 }
theorem mapM_places {P : Program} : ∀ {fs : List Field} {pl : List (Nat × Nat)}, fs.mapM (fun f => (P.info? f.type).map fun i => (f.offset, i.size)) = some pl → pl.map (·.1) = fs.map (·.offset)
  | [], pl, h => by
    have : pl = [] := by simpa using h.symm
    subst this; rfl
  | f :: fs, pl, h => by
    rw [List.mapM_cons] at h
    cases hx : P.info? f.type with
    | none => simp [hx] at h
    | some i =>
      cases hxs : fs.mapM (fun f => (P.info? f.type).map fun i => (f.offset, i.size)) with
      | none => simp [hx, hxs] at h
      | some l =>
        simp [hx, hxs] at h
        subst h
        simp [mapM_places hxs]
def Codec.struct {pl : List (Nat × Nat)} {ty : List Nat} (hk : KindOk P t (.struct pl ty)) {fl : List (Nat × Nat)} (hfl : (pl.map (·.1)).zip ty = fl) (c : FCodec P 0 fl α) (hc : P.cellsOf t = c.sz) : Codec P t α :=
  { enc := c.enc, ok := c.ok, sz := c.sz, cells := hc, len := c.len,
    open_ := fun {H e w base spare held fuel cs x} h => by
      obtain ⟨fs, ht, hm, hty⟩ := hk
      obtain ⟨xs, n, rfl, _, hlen, hxs, hat⟩ := DataW.trod_struct ht h
      subst hfl
      have hl : cs.length = c.sz := hlen.trans hc
      obtain ⟨a, h1, h2⟩ := c.open_ (e := e) (w := w) (base := base) (spare := spare) (held := held) (fuel := n) (cs := cs) (by omega) (fun f hf => by
        rw [mapM_places hm, ← hty] at hf
        obtain ⟨i, hi, hi'⟩ := List.getElem_of_mem hf
        simp only [List.length_zip, List.length_map, Nat.min_self] at hi
        simp only [List.getElem_zip, List.getElem_map] at hi'
        have h3 := hat i fs.toList[i] (by simpa using List.getElem?_eq_getElem hi)
        rw [← hi']
        simp only
        rw [h3]
        have hlt : i < xs.length := by rw [hxs]; simpa using hi
        exact ⟨xs[i], List.getElem?_eq_getElem hlt⟩)
      refine ⟨a, h1, ?_⟩
      have : (cs.drop 0).take c.sz = cs := by simp [← hl]
      rw [this] at h2
      exact h2 }
theorem arg_one {base : Nat} {w : World} {v : Value} {H : Type} {en : TypeId × Value → H} {spare : Nat → Bool} {held : Bool} {d : DataW H} {p : List MemPlace} (c : Codec P t α) (x : α → AV) (hx : ∀ a, c.enc a = [x a])
    (hns : ∀ l, v ≠ .agg l) (h : DataW.Trod en P w base spare held t v d p) : ∃ a, c.ok a ∧ R w (fun b => b < w.heap.size) Rho.none (x a) v := by
  obtain ⟨fuel, hf⟩ := h
  rw [Value.cells_one hns] at hf
  obtain ⟨a, h1, h2⟩ := c.open_ hf
  rw [hx] at h2
  exact ⟨a, h1, by simpa using h2.2 0 (x a) rfl⟩
def oneKind (d : Option TypeDesc) : Bool := match d with
  | some (.int _) => true
  | some .bool => true
  | some .string => true
  | some (.slice _) => true
  | _ => false
theorem okWide_one {Q : Reach} {base : Nat} {w : World} {v : Value} (h : Value.okWide P w Q base t v) (hk : oneKind (P.underlying t) = true) : ∀ l, v ≠ .agg l := by
  intro l e
  subst e
  unfold oneKind at hk
  split at hk
  all_goals first | cases hk | skip
  all_goals
    rename_i hu
    simp only [Value.okWide, hu, Cell.okWide] at h
    simp [Cell.ok] at h
theorem arg_cell {Q : Reach} {base b0 : Nat} {w : World} {v : Value} {H : Type} {en : TypeId × Value → H} {spare : Nat → Bool} {held : Bool} {d : DataW H} {p : List MemPlace} (c : Codec P t α) (x : α → AV) (hx : ∀ a, c.enc a = [x a])
    (hk : oneKind (P.underlying t) = true) (hv : Value.okWide P w Q b0 t v) (h : DataW.Trod en P w base spare held t v d p) : ∃ a, c.ok a ∧ R w (fun b => b < w.heap.size) Rho.none (x a) v :=
  arg_one c x hx (okWide_one hv hk) h
theorem arg_agg {Q : Reach} {base b0 : Nat} {w : World} {v : Value} {H : Type} {en : TypeId × Value → H} {spare : Nat → Bool} {held : Bool} {d : DataW H} {p : List MemPlace} (c : Codec P t α) {fs : Array Field}
    (ht : P.underlying t = some (.struct fs)) (hv : Value.okWide P w Q b0 t v) (h : DataW.Trod en P w base spare held t v d p) : ∃ a, c.ok a ∧ R w (fun b => b < w.heap.size) Rho.none (.agg (c.enc a)) v := by
  simp only [Value.okWide, ht] at hv
  obtain ⟨cs, rfl, hsz, _⟩ := hv
  obtain ⟨fuel, hf⟩ := h
  obtain ⟨a, h1, h2⟩ := c.open_ hf
  simp only [Value.cells] at h2
  refine ⟨a, h1, .agg (by simpa using h2.1) fun i x hx => by simpa using h2.2 i x hx⟩
end
theorem Does.call {P : Program} {f : FuncId} {args : List AV} {res : AV} (h : Does P f args res) {w : World} {vs : Array Value} (hs : vs.size = args.length) (hgl : GlIn w (fun b => b < w.heap.size)) (hr : ∀ i x, args[i]? = some x → R w (fun b => b < w.heap.size) Rho.none x (vs.getD i undef)) {Q : Ending → World → Prop}
    (hq : ∀ v w', Go.RowKit.Below w.heap.size w w' → R w' (fun _ => True) Rho.none res v → Q (.returned v) w') : Calls P f vs w Q := by
  refine (h.2 w (fun b => b < w.heap.size) vs hs (fun _ h => h) hgl hr).mono ?_
  rintro e w' ⟨v, rfl, hk, hv⟩
  exact hq v w' hk.below (hv.tr (fun _ _ => ⟨trivial, rfl⟩) _ (Le.refl _))
end Go.Eng
end
section
namespace Go.Eng
theorem frI {p : Prop} (h : p := by (repeat' (first | exact rfl | exact AvIs.refl _ | exact trivial | exact fun _ _ => rfl | exact fun _ _ => ⟨rfl, AvIs.refl _⟩ | refine ⟨?_, ?_⟩))) : p := h
theorem cJ {k : IntKind} {a b : Int} (h : a = b) : AV.c (.int k a) = AV.c (.int k b) := by rw [h]
theorem frV {p : Prop} (h : p := by (repeat' (first | exact rfl | exact AvIs.refl _ | exact trivial | exact fun _ _ => rfl | exact fun _ _ => ⟨rfl, AvIs.refl _⟩ | exact cJ (by omega) | refine ⟨?_, ?_⟩))) : p := h
theorem mixO {E : Env} {P : Program} (hE : E.P = P) (h : P.follows .mixedOrders = true := by kernel_rfl) : E.P.follows .mixedOrders = true := by rw [hE]; exact h
section
variable {E : Env} {Q : Exit → ST → Prop} {ops : Array Oper} {k k' : List It} {st : ST} {T : TE} {tr0 : List (EffM × (List Nat × List Nat))}
theorem XK.n (h : XK E k' Q st) (h1 : nrmB k = true := by exact rfl) (h2 : nrm 200 k = some k' := by exact rfl) : XK E k Q st := XK.norm h1 h2 h
theorem XK.a {id : Nat} {fr fr' : Nat → AV} {ob ob' : Nat → Option Ob} {nx nt : Nat} {md : Nat → Bool} {obl obl' : List Prop} (h : XK E k Q ⟨fr', ob', nx + nt, nt, md⟩) (hT : TOk E.P T := by assumption)
    (hd : ops.toList.all (dstOk ⟨fun _ => .junk, fun _ => none, nx, nt, md⟩) = true := by exact rfl) (hr : runF T ops.toList nx nt md [] fr ob ops.toList = ⟨obl, fr', ob', []⟩ := by exact rfl) (hf : frcR obl [] = some obl' := by exact rfl)
    (ho : AllP obl' := by (first | exact trivial | (simp [AllP, impG]; done) | (simp only [AllP, List.append, List.nil_append, List.cons_append, inK, Go.Eng.tdivE, Go.Eng.tmodE, Int.toNat_natCast]; omega) | (simp [AllP, impG, inK, Go.Eng.tdivE, Go.Eng.tmodE]; omega) | ((repeat (first | (focus (first | omega | (intro i hi; first | rfl | (cases Nat.lt_one_iff.1 hi; rfl) | (rcases i with _ | _ | _ | _ | i <;> first | rfl | (exfalso; omega))) | (simp <;> omega))) | refine ⟨?_, ?_⟩)); done) | (simp only [AllP, impG, inK]; grind))) : XK E (.code (.region id ops false) :: k) Q ⟨fr, ob, nx, nt, md⟩ :=
  XK.rgn (hT := hT) (hd := hd) (hr := hr) (hf := hf) (ho := ho) (h := h)
theorem XK.b {id : Nat} {fr fr' : Nat → AV} {ob ob' : Nat → Option Ob} {nx nt : Nat} {md : Nat → Bool} {obl obl' : List Prop} (h : XK E k Q ⟨fr', ob', nx + nt, nt, md⟩) (hT : TOk E.P T := by assumption) (hm : E.P.follows .mixedOrders = true := by assumption)
    (hd : ops.toList.all (dstOk ⟨fun _ => .junk, fun _ => none, nx, nt, md⟩) = true := by exact rfl) (hr : runF T ops.toList nx nt md [] fr ob ops.toList = ⟨obl, fr', ob', []⟩ := by exact rfl) (hf : frcR obl [] = some obl' := by exact rfl)
    (hc : checkD [] [] ops.toList (runD T ops.toList nx nt md [] [] fr ob ops.toList).tr = true := by kernel_rfl)
    (ho : AllP obl' := by (first | exact trivial | (simp [AllP, impG]; done) | (simp only [AllP, List.append, List.nil_append, List.cons_append, inK, Go.Eng.tdivE, Go.Eng.tmodE, Int.toNat_natCast]; omega) | (simp [AllP, impG, inK, Go.Eng.tdivE, Go.Eng.tmodE]; omega) | ((repeat (first | (focus (first | omega | (intro i hi; first | rfl | (cases Nat.lt_one_iff.1 hi; rfl) | (rcases i with _ | _ | _ | _ | i <;> first | rfl | (exfalso; omega))) | (simp <;> omega))) | refine ⟨?_, ?_⟩)); done) | (simp only [AllP, impG, inK]; grind))) : XK E (.code (.region id ops true) :: k) Q ⟨fr, ob, nx, nt, md⟩ :=
  XK.rgnD (hT := hT) (hm := hm) (hd := hd) (hr := hr) (hf := hf) (hc := hc) (ho := ho) (h := h)
theorem XL.g {l rest : List Oper} {fr fr' : Nat → AV} {ob ob' : Nat → Option Ob} {nx nt : Nat} {md : Nat → Bool} {obl obl' : List Prop} (h : XL E ops Q rest ⟨fr', ob', nx, nt, md⟩) (hT : TOk E.P T := by assumption)
    (hd : ops.toList.all (dstOk ⟨fun _ => .junk, fun _ => none, nx, nt, md⟩) = true := by exact rfl) (hm : ops.toList.drop (ops.toList.length - l.length) = l := by exact rfl) (hr : runF T ops.toList nx nt md [] fr ob l = ⟨obl, fr', ob', rest⟩ := by exact rfl) (hf : frcR obl [] = some obl' := by exact rfl)
    (ho : AllP obl' := by (first | exact trivial | (simp [AllP, impG]; done) | (simp only [AllP, List.append, List.nil_append, List.cons_append, inK, Go.Eng.tdivE, Go.Eng.tmodE, Int.toNat_natCast]; omega) | (simp [AllP, impG, inK, Go.Eng.tdivE, Go.Eng.tmodE]; omega) | ((repeat (first | (focus (first | omega | (intro i hi; first | rfl | (cases Nat.lt_one_iff.1 hi; rfl) | (rcases i with _ | _ | _ | _ | i <;> first | rfl | (exfalso; omega))) | (simp <;> omega))) | refine ⟨?_, ?_⟩)); done) | (simp only [AllP, impG, inK]; grind))) : XL E ops Q l ⟨fr, ob, nx, nt, md⟩ :=
  XL.go (hT := hT) (hd := hd) (hm := hm) (hr := hr) (hf := hf) (ho := ho) (h := h)
theorem XK.o {fr : Nat → AV} {ob : Nat → Option Ob} {nx nt : Nat} {md : Nat → Bool} {rs : List ResultVar} {x x' res : AV} (he : x' = res) (h : retF T ⟨fr, ob, nx, nt, md⟩ rs = some x := by exact rfl) (hf : frc x = some x' := by exact rfl) (hk : x'.ks (fun _ => false) = true := by exact rfl) : XK E (.code .ret :: k) (RetQ T rs res) ⟨fr, ob, nx, nt, md⟩ := XK.out h hf hk he
theorem XK.p {fr : Nat → AV} {ob : Nat → Option Ob} {nx nt : Nat} {md : Nat → Bool} {rs : List ResultVar} {x x' res : AV} (he : x' = res) (h : retF T ⟨fr, ob, nx, nt, md⟩ rs = some x := by exact rfl) (hf : frc x = some x' := by exact rfl) (hk : x'.ks (fun _ => false) = true := by exact rfl) : XK E [] (RetQ T rs res) ⟨fr, ob, nx, nt, md⟩ := XK.outN h hf hk he
end
end Go.Eng
end
namespace Go.Proofs.YtlcfoelfcnhenaaGreatDoor
section
open Go.Eng
abbrev Q := Int × Int
def qv (q : Q) : AV := .agg [.c (.int .i64 q.1), .c (.int .i64 q.2)]
def qOk (q : Q) : Bool := decide (1 ≤ q.2 ∧ q.2 ≤ 1000000 ∧ -1000000000000 ≤ q.1 ∧ q.1 ≤ 1000000000000 ∧ Nat.gcd q.1.natAbs q.2.natAbs = 1)
theorem qOk_iff {q : Q} : qOk q = true ↔ 1 ≤ q.2 ∧ q.2 ≤ 1000000 ∧ -1000000000000 ≤ q.1 ∧ q.1 ≤ 1000000000000 ∧ Nat.gcd q.1.natAbs q.2.natAbs = 1 := by simp [qOk]
def qW (q : Q) : Prop := inK .i64 q.1 ∧ inK .i64 q.2
end
section
open Go.Eng
structure U where
  name : ByteArray
  kind : Int
  base : Int
  fac : Q
structure A where
  unit : Int
  val : Q
def uc (u : U) : List AV := [.c (.string u.name), .c (.int .i64 u.kind), .c (.int .i64 u.base), .c (.int .i64 u.fac.1), .c (.int .i64 u.fac.2)]
def ac (a : A) : List AV := [.c (.int .i64 a.unit), .c (.int .i64 a.val.1), .c (.int .i64 a.val.2)]
def qc (q : Q) : List AV := [.c (.int .i64 q.1), .c (.int .i64 q.2)]
def av (a : A) : AV := .agg [.c (.int .i64 a.unit), .c (.int .i64 a.val.1), .c (.int .i64 a.val.2)]
def tabV (n : Nat) (t : Nat → U) : AV := .rs 5 n (fun i => uc (t i))
def uW (u : U) : Prop := inK .i64 u.kind ∧ inK .i64 u.base ∧ qW u.fac
theorem bytes_beq {a b : ByteArray} : (a == b) = true ↔ a = b := by
  obtain ⟨x⟩ := a
  obtain ⟨y⟩ := b
  show ((x == y) = true) ↔ _
  simp
theorem bytes_bne {a b : ByteArray} : (a == b) = false ↔ a ≠ b := by rw [← Bool.not_eq_true, bytes_beq]
def emptyName : ByteArray := { data := #[] }
def uOk (t : Nat → U) (n i : Nat) : Prop :=
  (i < 20 ∧ (t i).name ≠ emptyName ∧ ∀ j, j < i → (t j).name ≠ (t i).name) ∧ (((t i).kind = 1 ∨ (t i).kind = 2) ∧ qOk (t i).fac = true ∧ 0 < (t i).fac.1) ∧
  ((0 ≤ (t i).base ∧ (t i).base < n) ∧ (t (t i).base.toNat).kind = (t i).kind ∧ (t (t i).base.toNat).base = (t i).base) ∧ ((t i).base ≠ i ∨ (t i).fac = (1, 1))
instance (t : Nat → U) (n i : Nat) : Decidable (uOk t n i) := by unfold uOk; infer_instance
def uOkB (t : Nat → U) (n i : Nat) : Bool := decide (uOk t n i)
theorem uOkB_iff {t : Nat → U} {n i : Nat} : uOkB t n i = true ↔ uOk t n i := by unfold uOkB; exact decide_eq_true_iff
theorem uOkB_false {t : Nat → U} {n i : Nat} : uOkB t n i = false ↔ ¬ uOk t n i := by rw [← uOkB_iff]; simp
end
section
open Go.Eng
instance : Inhabited U := ⟨⟨emptyName, 0, 0, (0, 0)⟩⟩
instance : Inhabited A := ⟨⟨0, (0, 0)⟩⟩
noncomputable def cInt : Codec Tryz.prog 3 Int := Codec.int .i64 (show Tryz.prog.underlying 3 = some (.int .i64) from by kernel_rfl) (by kernel_rfl)
noncomputable def cU8 : Codec Tryz.prog 5 Int := Codec.int .u8 (show Tryz.prog.underlying 5 = some (.int .u8) from by kernel_rfl) (by kernel_rfl)
noncomputable def cStr : Codec Tryz.prog 9 ByteArray := Codec.str (show Tryz.prog.underlying 9 = some .string from by kernel_rfl) (by kernel_rfl)
noncomputable def cQ : Codec Tryz.prog 54 Q := (Codec.struct ty54_k rfl (.cons cInt (.cons cInt (.nil _ _))) (by kernel_rfl)).map (fun x => (x.1, x.2.1)) qc qW (fun _ => rfl) (fun _ => rfl) (fun _ h => ⟨h.1, h.2.1⟩)
noncomputable def cU : Codec Tryz.prog 113 U := (Codec.struct ty113_k rfl (.cons cStr (.cons cInt (.cons cInt (.cons cQ (.nil _ _))))) (by kernel_rfl)).map (fun x => ⟨x.1, x.2.1, x.2.2.1, x.2.2.2.1⟩) uc uW (fun _ => rfl) (fun _ => rfl) (fun _ h => ⟨h.2.1, h.2.2.1, h.2.2.2.1⟩)
noncomputable def cUs : Codec Tryz.prog 23 (List U) := Codec.slice cU ty23_k (by decide) (by kernel_rfl)
theorem all_getD {α : Type} [Inhabited α] {p : α → Prop} {l : List α} (h : ∀ a ∈ l, p a) : ∀ j, j < l.length → p (l.getD j default) := by
  intro j hj
  simp only [List.getD_eq_getElem?_getD, List.getElem?_eq_getElem hj, Option.getD_some]
  exact h _ (List.getElem_mem hj)
end
end Go.Proofs.YtlcfoelfcnhenaaGreatDoor
