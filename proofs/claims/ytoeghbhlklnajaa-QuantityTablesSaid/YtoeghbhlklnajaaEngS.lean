/- The engine, part S: calls, where the state is written out. -/
import Derived.Test.YtoeghbhlklnajaaEngR
namespace Go.Eng

def AvIsL : List AV → List AV → Prop
  | [], [] => True
  | [x], [y] => AvIs x y
  | x :: l, y :: l' => AvIs x y ∧ AvIsL l l'
  | _, _ => False
theorem AvIsL.at : ∀ {l l' : List AV}, AvIsL l l' → l.length = l'.length ∧ ∀ (i : Nat) (x y : AV), l[i]? = some x → l'[i]? = some y → AvIs x y
  | [], [], _ => ⟨rfl, fun i x y h => by simp at h⟩
  | [x], [y], h => ⟨rfl, fun i x' y' h1 h2 => by
    match i with
    | 0 => simp at h1 h2; subst h1 h2; exact h
    | i + 1 => simp at h1⟩
  | x :: x2 :: l, y :: y2 :: l', h => by
    obtain ⟨h1, h2⟩ := AvIsL.at (l := x2 :: l) (l' := y2 :: l') h.2
    refine ⟨by simpa using h1, fun i x' y' g1 g2 => ?_⟩
    match i with
    | 0 => simp at g1 g2; subst g1 g2; exact h.1
    | i + 1 => exact h2 i x' y' (by simpa using g1) (by simpa using g2)
  | [x], y :: y2 :: l', h => False.elim h.2
  | x :: x2 :: l, [y], h => by
    have := h.2
    cases l <;> simp [AvIsL] at this


section
variable {E : Env} {Q : Exit → ST → Prop} {ops : Array Oper} {o : Oper} {rest : List Oper} {f d : Nat} {args args1 args' : List AV} {res : AV} {fr : Nat → AV} {ob : Nat → Option Ob} {nx nt : Nat} {md : Nat → Bool} {P : Program} {k : List It} {tr0 : List (EffM × (List Nat × List Nat))}

theorem XK.out {T : TE} {rs : List ResultVar} {x x' : AV} (h : retF T ⟨fr, ob, nx, nt, md⟩ rs = some x) (hf : frc x = some x') (hk : x'.ks (fun _ => false) = true) (he : x' = res) : XK E (.code .ret :: k) (RetQ T rs res) ⟨fr, ob, nx, nt, md⟩ := XK.ret (RetQ.ret h (frc_eq hf ▸ hk) (frc_eq hf ▸ he))
theorem XK.outN {T : TE} {rs : List ResultVar} {x x' : AV} (h : retF T ⟨fr, ob, nx, nt, md⟩ rs = some x) (hf : frc x = some x') (hk : x'.ks (fun _ => false) = true) (he : x' = res) : XK E [] (RetQ T rs res) ⟨fr, ob, nx, nt, md⟩ := XK.nil (RetQ.normal h (frc_eq hf ▸ hk) (frc_eq hf ▸ he))
theorem XK.outL {T : TE} {rs : List ResultVar} {x x' : AV} (h : retF T ⟨fr, ob, nx, nt, md⟩ rs = some x) (hf : frc x = some x') (hk : x'.ks (fun _ => false) = true) (he : AvIs x' res) : XK E (.code .ret :: k) (RetQ T rs res) ⟨fr, ob, nx, nt, md⟩ := by
  have e := frc_eq hf
  subst e
  exact XK.ret ⟨.inr rfl, _, h, hk, he⟩
theorem XK.outLN {T : TE} {rs : List ResultVar} {x x' : AV} (h : retF T ⟨fr, ob, nx, nt, md⟩ rs = some x) (hf : frc x = some x') (hk : x'.ks (fun _ => false) = true) (he : AvIs x' res) : XK E [] (RetQ T rs res) ⟨fr, ob, nx, nt, md⟩ := by
  have e := frc_eq hf
  subst e
  exact XK.nil ⟨.inl rfl, _, h, hk, he⟩
theorem XL.fin (h : XK E k Q ⟨fr, ob, nx + nt, nt, md⟩) : XL E ops (XQ E k Q) [] ⟨fr, ob, nx, nt, md⟩ := XL.nil h
theorem XD.fin (hc : checkD [] [] ops.toList tr0 = true) (h : XK E k Q ⟨fr, ob, nx + nt, nt, md⟩) : XD E ops Q k tr0 [] ⟨fr, ob, nx, nt, md⟩ := XD.nil hc h
/-- A call that only looks at what is lent, and hands back no memory. -/
theorem XL.callL (hE : E.P = P) (hc : callF ⟨fr, ob, nx, nt, md⟩ o.op = some (f, args)) (hg : o.guard = none) (hds : o.dst = some d) (hd : Nat.blt d nt = true) (ho : AllP (o.op.operands.toList.flatMap (fun x => oblG none (ST.ev ⟨fr, ob, nx, nt, md⟩ x))))
    (hfa : frcL (AV.lendL ob args) = some args1) (hP : Does P f args' res) (ha : AvIsL args1 args') (hfl : res.flat = true) (h : XL E ops Q rest ⟨upd fr d res, ob, nx, nt, md⟩) : XL E ops Q (o :: rest) ⟨fr, ob, nx, nt, md⟩ := by
  have h1 := frcL_eq hfa
  refine XL.call hc hg (by simp [dstOk, hds, hd]) ho (hE ▸ Does.arg hP ha.at.1 ha.at.2) (.inl ⟨h1.symm, hfl⟩) ?_
  rw [hds]; exact h
/-- A call with nothing of the call's own among its arguments. -/
theorem XL.callK (hE : E.P = P) (hc : callF ⟨fr, ob, nx, nt, md⟩ o.op = some (f, args)) (hg : o.guard = none) (hds : o.dst = some d) (hd : Nat.blt d nt = true) (ho : AllP (o.op.operands.toList.flatMap (fun x => oblG none (ST.ev ⟨fr, ob, nx, nt, md⟩ x))))
    (hfa : frcL args = some args1) (hks : AV.ksL (fun _ => false) args1 = true) (hP : Does P f args' res) (ha : AvIsL args1 args') (h : XL E ops Q rest ⟨upd fr d res, ob, nx, nt, md⟩) : XL E ops Q (o :: rest) ⟨fr, ob, nx, nt, md⟩ := by
  have h1 := frcL_eq hfa
  subst h1
  refine XL.call hc hg (by simp [dstOk, hds, hd]) ho (hE ▸ Does.arg hP ha.at.1 ha.at.2) (.inr ⟨rfl, hks⟩) ?_
  rw [hds]; exact h
theorem XL.callLG {j : Nat} {pol g : Bool} (hE : E.P = P) (hc : callF ⟨fr, ob, nx, nt, md⟩ o.op = some (f, args)) (hg : o.guard = some (j, pol)) (hgv : gval ⟨fr, ob, nx, nt, md⟩ ops.toList j pol = some g) (hds : o.dst = some d) (hd : Nat.blt d nt = true) (hda : ops.toList.all (dstOk ⟨fun _ => .junk, fun _ => none, nx, nt, md⟩) = true)
    {obl' : List Prop} (hf : frcP (o.op.operands.toList.flatMap (fun x => oblG (some g) (ST.ev ⟨fr, ob, nx, nt, md⟩ x))) = some obl') (ho : AllP obl')
    (hfa : frcL (AV.lendL ob args) = some args1) (hP : g = true → Does P f args' res ∧ AvIsL args1 args') (hfl : res.flat = true) (h : XL E ops Q rest ⟨upd fr d (.gd g res), ob, nx, nt, md⟩) : XL E ops Q (o :: rest) ⟨fr, ob, nx, nt, md⟩ := by
  have h1 := frcL_eq hfa
  have ho := frcP_eq hf ▸ ho
  refine XL.callG (args' := args1) hc hg hgv (by simp [dstOk, hds, hd]) hda ho (fun e => hE ▸ Does.arg (hP e).1 (hP e).2.at.1 (hP e).2.at.2) (.inl ⟨h1.symm, hfl⟩) ?_
  rw [hds]; exact h

/-- The same in a region that draws. -/
theorem XD.callL (hE : E.P = P) (hc : callF ⟨fr, ob, nx, nt, md⟩ o.op = some (f, args)) (hg : o.guard = none) (hds : o.dst = some d) (hd : Nat.blt d nt = true) (ho : AllP (o.op.operands.toList.flatMap (fun x => oblG none (ST.ev ⟨fr, ob, nx, nt, md⟩ x))))
    (hfa : frcL (AV.lendL ob args) = some args1) (hP : Does P f args' res) (ha : AvIsL args1 args') (hfl : res.flat = true) (h : XD E ops Q k (tr0 ++ [(⟨res, []⟩, fpF ops.toList ⟨fr, ob, nx, nt, md⟩ o)]) rest ⟨upd fr d res, ob, nx, nt, md⟩) : XD E ops Q k tr0 (o :: rest) ⟨fr, ob, nx, nt, md⟩ := by
  have h1 := frcL_eq hfa
  refine XD.call hc hg (by simp [dstOk, hds, hd]) ho (hE ▸ Does.arg hP ha.at.1 ha.at.2) (.inl ⟨h1.symm, hfl⟩) ?_
  rw [hds]; exact h
theorem XD.callK (hE : E.P = P) (hc : callF ⟨fr, ob, nx, nt, md⟩ o.op = some (f, args)) (hg : o.guard = none) (hds : o.dst = some d) (hd : Nat.blt d nt = true) (ho : AllP (o.op.operands.toList.flatMap (fun x => oblG none (ST.ev ⟨fr, ob, nx, nt, md⟩ x))))
    (hfa : frcL args = some args1) (hks : AV.ksL (fun _ => false) args1 = true) (hP : Does P f args' res) (ha : AvIsL args1 args') (h : XD E ops Q k (tr0 ++ [(⟨res, []⟩, fpF ops.toList ⟨fr, ob, nx, nt, md⟩ o)]) rest ⟨upd fr d res, ob, nx, nt, md⟩) : XD E ops Q k tr0 (o :: rest) ⟨fr, ob, nx, nt, md⟩ := by
  have h1 := frcL_eq hfa
  subst h1
  refine XD.call hc hg (by simp [dstOk, hds, hd]) ho (hE ▸ Does.arg hP ha.at.1 ha.at.2) (.inr ⟨rfl, hks⟩) ?_
  rw [hds]; exact h
theorem XD.callKG {j : Nat} {pol g : Bool} (hE : E.P = P) (hc : callF ⟨fr, ob, nx, nt, md⟩ o.op = some (f, args)) (hg : o.guard = some (j, pol)) (hgv : gval ⟨fr, ob, nx, nt, md⟩ ops.toList j pol = some g) (hds : o.dst = some d) (hd : Nat.blt d nt = true) (hda : ops.toList.all (dstOk ⟨fun _ => .junk, fun _ => none, nx, nt, md⟩) = true)
    {obl' : List Prop} (hf : frcP (o.op.operands.toList.flatMap (fun x => oblG (some g) (ST.ev ⟨fr, ob, nx, nt, md⟩ x))) = some obl') (ho : AllP obl')
    (hfa : frcL args = some args1) (hks : AV.ksL (fun _ => false) args1 = true) (hP : g = true → Does P f args' res ∧ AvIsL args1 args') (hfl : res.flat = true) (h : XD E ops Q k (tr0 ++ [(⟨.gd g res, []⟩, fpF ops.toList ⟨fr, ob, nx, nt, md⟩ o)]) rest ⟨upd fr d (.gd g res), ob, nx, nt, md⟩) : XD E ops Q k tr0 (o :: rest) ⟨fr, ob, nx, nt, md⟩ := by
  have h1 := frcL_eq hfa
  have ho := frcP_eq hf ▸ ho
  subst h1
  refine XD.callG hc hg hgv (by simp [dstOk, hds, hd]) hda ho (fun e => hE ▸ Does.arg (hP e).1 (hP e).2.at.1 (hP e).2.at.2) hfl rfl hks ?_
  rw [hds]; exact h
end
end Go.Eng
