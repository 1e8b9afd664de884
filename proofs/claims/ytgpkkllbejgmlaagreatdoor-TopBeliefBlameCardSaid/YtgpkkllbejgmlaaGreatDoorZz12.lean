import Derived.Test.YtgpkkllbejgmlaaGreatDoorZz11
set_option linter.unusedSimpArgs false
set_option linter.unusedVariables false
section
namespace Go.Eng
section
variable {E:Env} {Q:Exit→ST→Prop} {k:List It} {ops:Array Oper} {o:Oper} {rest:List Oper} {fr:Nat→AV} {ob:Nat→Option Ob} {nx nt:Nat} {md:Nat→Bool} {T:TE} {tr0:List (EffM×(List Nat×List Nat))}
theorem XD.opE (hT:TOk E.P T) {d:Nat} {x y:AV} {obl obl':List Prop} (hda:ops.toList.all (dstOk ⟨fun _=>.junk,fun _=>none,nx,nt,md⟩)=true) (hm:ops.toList.drop (ops.toList.length-(o::rest).length)=o::rest) (hs:stepF T ops.toList ⟨fr,ob,nx,nt,md⟩ o=some (obl,⟨x,none⟩)) (hf:frcR obl []=some obl') (ho:AllP obl') (hds:o.dst=some d) (hx:x=y)
  (h:XD E ops Q k (tr0++[(⟨y,[]⟩,fpF ops.toList ⟨fr,ob,nx,nt,md⟩ o)]) rest ⟨upd fr d y,ob,nx,nt,md⟩):XD E ops Q k tr0 (o::rest) ⟨fr,ob,nx,nt,md⟩:=by
 subst hx
 have hmem:o∈ops.toList:=by
  have:o∈ops.toList.drop (ops.toList.length-(o::rest).length):=by rw[hm];simp
  exact List.mem_of_mem_drop this
 refine XD.step (eff:=⟨x,none⟩) (Local.step hT hs (AllP.memR hf ho) hda hmem) ?_
 simp only[ST.app,hds]
 exact h
end
section
variable {E:Env} {T:TE} {Q:Exit→ST→Prop} {k:List It} {ops:Array Oper} {tr0:List (EffM×(List Nat×List Nat))}
theorem XD.runN (hT:TOk E.P T) {l2:List Oper} {nx nt:Nat} {md:Nat→Bool} (hd:ops.toList.all (dstOk ⟨fun _=>.junk,fun _=>none,nx,nt,md⟩)=true):∀{l:List Oper} {acc:List Prop} {tr0 tr':List (EffM×(List Nat×List Nat))} {fr fr':Nat→AV} {ob ob':Nat→Option Ob} {obl:List Prop} {rest:List Oper},(∀o∈l,o∈ops.toList)→runD T ops.toList nx nt md acc tr0 fr ob l=⟨obl,tr',fr',ob',rest⟩→(∀p∈obl,p)→
  XD E ops Q k tr' (rest++l2) ⟨fr',ob',nx,nt,md⟩→XD E ops Q k tr0 (l++l2) ⟨fr,ob,nx,nt,md⟩∧∀p∈acc,p
 |[],acc,tr0,tr',fr,fr',ob,ob',obl,rest,_,hr,ho,h=>by
  simp only[runD,RunD.mk.injEq] at hr
  obtain⟨rfl,rfl,rfl,rfl,rfl⟩:=hr
  exact⟨h,ho⟩
 |o::l,acc,tr0,tr',fr,fr',ob,ob',obl,rest,hmem,hr,ho,h=>by
  have stop:(⟨acc,tr0,fr,ob,o::l⟩:RunD)=⟨obl,tr',fr',ob',rest⟩→XD E ops Q k tr0 (o::l++l2) ⟨fr,ob,nx,nt,md⟩∧∀p∈acc,p:=by
   intro hr
   simp only[RunD.mk.injEq] at hr
   obtain⟨rfl,rfl,rfl,rfl,rfl⟩:=hr
   exact⟨h,ho⟩
  have go:∀{ob1:List Prop} {eff:Eff} {fr1:Nat→AV} {obj1:Nat→Option Ob},stepF T ops.toList ⟨fr,ob,nx,nt,md⟩ o=some (ob1,eff)→(ST.app ⟨fr,ob,nx,nt,md⟩ o.dst eff)=⟨fr1,obj1,nx,nt,md⟩→
    (match ob1 with
     |[]=>runD T ops.toList nx nt md acc (tr0++[(eff.toM,fpF ops.toList ⟨fr,ob,nx,nt,md⟩ o)]) fr1 obj1 l
     |p::ps=>runD T ops.toList nx nt md (pushR (p::ps) acc) (tr0++[(eff.toM,fpF ops.toList ⟨fr,ob,nx,nt,md⟩ o)]) fr1 obj1 l)=⟨obl,tr',fr',ob',rest⟩→XD E ops Q k tr0 (o::l++l2) ⟨fr,ob,nx,nt,md⟩∧∀p∈acc,p:=by
   intro ob1 eff fr1 obj1 hs he hr
   have fin:XD E ops Q k (tr0++[(eff.toM,fpF ops.toList ⟨fr,ob,nx,nt,md⟩ o)]) (l++l2) ⟨fr1,obj1,nx,nt,md⟩→(∀p∈ob1,p)→XD E ops Q k tr0 (o::l++l2) ⟨fr,ob,nx,nt,md⟩:=fun hx hp=>
    XD.step (Local.step hT hs hp hd (hmem o (by simp))) (he▸hx)
   cases ob1 with
   |nil=>
    obtain⟨h1,h2⟩:=XD.runN hT hd (fun o' ho'=>hmem o' (by simp[ho'])) hr ho h
    exact⟨fin h1 (fun p hp=>by cases hp),h2⟩
   |cons q qs=>
    obtain⟨h1,h2⟩:=XD.runN hT hd (fun o' ho'=>hmem o' (by simp[ho'])) hr ho h
    exact⟨fin h1 (fun p hp=>h2 p (mem_pushR.2 (.inl hp))),fun p hp=>h2 p (mem_pushR.2 (.inr hp))⟩
  simp only[runD,stepN_eq] at hr
  split at hr
  ·rename_i ob1 av eo hs
   split at hr
   ·rename_i x d hx hd1
    have:=frc_eq hx
    subst this
    exact go hs (by rw[hd1];rfl) hr
   ·rename_i x k o' d hx hd1
    have:=frc_eq hx
    subst this
    split at hr
    ·rename_i k2 o2 ho2
     obtain⟨h1,h2⟩:=frcKO_eq ho2
     subst h1 h2
     exact go hs (by rw[hd1];rfl) hr
    ·exact stop hr
   ·rename_i x k o' hx hd1
    have:=frc_eq hx
    subst this
    split at hr
    ·rename_i k2 o2 ho2
     obtain⟨h1,h2⟩:=frcKO_eq ho2
     subst h1 h2
     exact go hs (by rw[hd1];rfl) hr
    ·exact stop hr
   ·exact stop hr
  ·exact stop hr
theorem XD.goN (n:Nat) (hT:TOk E.P T) {l l1 l2:List Oper} {fr fr':Nat→AV} {ob ob':Nat→Option Ob} {nx nt:Nat} {md:Nat→Bool} {obl obl':List Prop} (hd:ops.toList.all (dstOk ⟨fun _=>.junk,fun _=>none,nx,nt,md⟩)=true)
  (hm:ops.toList.drop (ops.toList.length-l.length)=l) (h1:l.take n=l1) (h2:l.drop n=l2) (hr:runF T ops.toList nx nt md [] fr ob l1=⟨obl,fr',ob',[]⟩) (hf:frcR obl []=some obl') (ho:AllP obl') (h:XD E ops Q k (runD T ops.toList nx nt md [] tr0 fr ob l1).tr l2 ⟨fr',ob',nx,nt,md⟩):XD E ops Q k tr0 l ⟨fr,ob,nx,nt,md⟩:=by
 have hl:l=l1++l2:=by rw[←h1,←h2,List.take_append_drop]
 subst hl
 exact(XD.runN hT hd (fun _ h=>List.mem_of_mem_drop (hm▸List.mem_append_left _ h)) ((runD_runF _ _ _ _ _).trans (by rw[hr])) (AllP.memR hf ho) h).1
end
theorem XK.join {E:Env} {Q:Exit→ST→Prop} {st:ST} {k:List It} {c:Operand} {x y c':Code} {b:Bool} (st':ST) (hc:st.ev c=.c (.bool b)) (ht:b=true→XK E (.code x::.inv (fun s=>Weak E s st')::.code c'::k) Q st)
  (hf:b=false→XK E (.code y::.inv (fun s=>Weak E s st')::.code c'::k) Q st) (h:XK E (.code c'::k) Q st'):XK E (.code (.cond c x y)::.code c'::k) Q st:=by
 have go:∀{z:Code},XK E (.code z::.inv (fun s=>Weak E s st')::.code c'::k) Q st→XK E (.code z::.code c'::k) Q st:=by
  intro z hz
  refine XC.mono (E:=E) hz fun e s hs=>?_
  cases e with
  |normal=>exact XQ.weak (show Weak E s st' from hs) h
  |_=>exact hs
 exact XK.cond hc (fun hb=>go (ht hb)) (fun hb=>go (hf hb))
theorem SatR.convT {E:Env} {st:ST} {a:Act} {w:World} {ρ:Rho} (h:SatR E st a w ρ) {st':ST} {ρ':Rho} {g:AV→AV} (τ:Nat→Nat) (hnt:st'.nt=st.nt) (hfr:∀k,st'.fr k=(st.fr k).map g)
  (leaf:∀x v,x.isName=true→R w (E.good w ρ) ρ x v→R w (E.good w ρ') ρ' (g x) v) (hob:∀k o,st'.ob k=some o→ObOk w (E.good w ρ') ρ' k o) (hno:∀k,st'.ob k=none→ρ' k=none)
  (hsub:∀k x b,ρ' k=some x→x.block=some b→∃y,ρ (τ k)=some y∧y.block=some b) (hτ:∀j j' x x' b,ρ' j=some x→ρ' j'=some x'→x.block=some b→x'.block=some b→τ j=τ j'→j=j')
  (hle:∀k,k<E.N→∀x,E.r0 k=some x→ρ' k=some x∨∃s v s' v',x=.hdr s v∧ρ' k=some (.hdr s' v')∧s<s'):SatR E st' a w ρ':=by
 have hG:∀b,E.good w ρ b→E.good w ρ' b∧w.heap[b]?=w.heap[b]?:=fun b ⟨h0,hlt,hno⟩=>⟨⟨h0,hlt,fun j y hj hy=>by
  obtain⟨z,hz,hzb⟩:=hsub j y b hj hy
  exact hno _ z hz hzb⟩,rfl⟩
 refine⟨h.keep,hnt▸h.tsz,h.dfr.tr hG,h.gl.tr hG,fun k=>?_,hob,hno,fun j j' y y' b hj hj' hy hy'=>?_,fun j y b hj hy=>?_,hle⟩
 ·rw[hfr k];exact(h.fr k).map hG leaf
 ·obtain⟨z,hz,hzb⟩:=hsub j y b hj hy
  obtain⟨z',hz',hzb'⟩:=hsub j' y' b hj' hy'
  exact hτ j j' y y' b hj hj' hy hy' (h.dis _ _ z z' b hz hz' hzb hzb')
 ·obtain⟨z,hz,hzb⟩:=hsub j y b hj hy
  exact h.own _ z b hz hzb
def stealG (k s q:Nat):AV→AV
 |.vec j s'=>bif Nat.beq j k then(bif Nat.beq s' s then .vec q 0 else .junk) else .vec j s'
 |.vptr j s' sz i off=>bif Nat.beq j k then(bif Nat.beq s' s then .vptr q 0 sz i off else .junk) else .vptr j s' sz i off
 |x=>x
def ST.steal (st:ST) (k s q:Nat) (o o':Ob):ST:={st with fr:=fun j=>(st.fr j).map (stealG k s q),ob:=upd (upd (fun j=>(st.ob j).map (Ob.map (stealG k s q))) k (some o')) q (some o)}
theorem Weak.steal {E:Env} {st:ST} (q:Nat) {k e sz s n m:Nat} {f f':Nat→List AV} (hN:E.N=m) (hk:st.ob k=some (.vec e sz s n f)) (hq:st.ob q=none) (hqm:Nat.ble m q=true):
  Weak E st (st.steal k s q (.vec e sz 0 n f) (.vec e sz (s+1) 0 f')):=by
 rintro a w ⟨ρ,h⟩
 obtain⟨hv,xs,hg,hown,hf,hr⟩:=h.ob k _ hk
 have hρq:=h.no q hq
 have hkq:k≠q:=fun e=>by subst e;rw[hk] at hq;cases hq
 let ρ':Rho:=upd (upd ρ k (some (.hdr (s+1) (.slice none 0 0)))) q (some (.hdr 0 hv))
 have e1:ρ' q=some (.hdr 0 hv):=upd_same _ _ _
 have e2:ρ' k=some (.hdr (s+1) (.slice none 0 0)):=by simp only[ρ'];rw[upd_other _ _ hkq,upd_same]
 have e3:∀j,j≠k→j≠q→ρ' j=ρ j:=fun j h1 h2=>by simp only[ρ'];rw[upd_other _ _ h2,upd_other _ _ h1]
 have hcase:∀j x b,ρ' j=some x→x.block=some b→(j=q∧ρ k=some (.hdr s hv)∧(RV.hdr s hv).block=some b)∨(j≠k∧j≠q∧ρ j=some x):=by
  intro j x b hj hb
  by_cases h1:j=q
  ·subst h1;rw[e1] at hj;injection hj with hj;subst hj;exact .inl ⟨rfl,hg,hb⟩
  ·by_cases h2:j=k
   ·subst h2;rw[e2] at hj;injection hj with hj;subst hj;cases hb
   ·rw[e3 j h2 h1] at hj;exact .inr ⟨h2,h1,hj⟩
 have hG:∀b,E.good w ρ b→E.good w ρ' b:=fun b ⟨h0,hlt,hno⟩=>⟨h0,hlt,fun j y hj hy=>by
  rcases hcase j y b hj hy with⟨_,h1,h2⟩|⟨_,_,h1⟩
  ·exact hno k _ h1 h2
  ·exact hno j y h1 hy⟩
 have leaf:∀x v,x.isName=true→R w (E.good w ρ) ρ x v→R w (E.good w ρ') ρ' (stealG k s q x) v:=by
  intro x v hx hxv
  have ne:∀{j:Nat} {y:RV},ρ j=some y→j≠q:=fun hj e=>by subst e;rw[hρq] at hj;cases hj
  cases hxv with
  |@ptr _ j off g hj=>
   refine .ptr ((e3 j (fun e=>?_) (ne hj)).trans hj)
   subst e
   rw[hg] at hj;injection hj with hj;cases hj
  |@mp _ j g hj=>
   refine .mp ((e3 j (fun e=>?_) (ne hj)).trans hj)
   subst e
   rw[hg] at hj;injection hj with hj;cases hj
  |@vptr _ j s' sz' i off g n' cap hj hi=>
   simp only[stealG]
   cases hb:Nat.beq j k with
   |false=>exact .vptr ((e3 j (fun e=>by subst e;simp at hb) (ne hj)).trans hj) hi
   |true=>
    have:=Nat.eq_of_beq_eq_true hb
    subst this
    simp only[cond_true]
    cases hb2:Nat.beq s' s with
    |false=>exact .junk
    |true=>
     rw[hg] at hj
     injection hj with hj
     injection hj with h1 h2
     subst h2
     exact .vptr e1 hi
  |@vptrOld _ j s1 s2 sz' i off hv' v' hj hlt=>
   simp only[stealG]
   cases hb:Nat.beq j k with
   |false=>exact .vptrOld ((e3 j (fun e=>by subst e;simp at hb) (ne hj)).trans hj) hlt
   |true=>
    have:=Nat.eq_of_beq_eq_true hb
    subst this
    rw[hg] at hj
    injection hj with hj
    injection hj with h1 h2
    subst h1
    simp only[cond_true]
    cases hb2:Nat.beq s1 s with
    |true=>have:=Nat.eq_of_beq_eq_true hb2;omega
    |false=>exact .junk
  |@vec _ j s' hv' hj=>
   simp only[stealG]
   cases hb:Nat.beq j k with
   |false=>exact .vec ((e3 j (fun e=>by subst e;simp at hb) (ne hj)).trans hj)
   |true=>
    have:=Nat.eq_of_beq_eq_true hb
    subst this
    rw[hg] at hj
    injection hj with hj
    injection hj with h1 h2
    subst h1 h2
    simp only[cond_true]
    cases hb2:Nat.beq s s with
    |false=>exact .junk
    |true=>exact .vec e1
  |@vecOld _ j s1 s2 hv' v' hj hlt=>
   simp only[stealG]
   cases hb:Nat.beq j k with
   |false=>exact .vecOld ((e3 j (fun e=>by subst e;simp at hb) (ne hj)).trans hj) hlt
   |true=>
    have:=Nat.eq_of_beq_eq_true hb
    subst this
    rw[hg] at hj
    injection hj with hj
    injection hj with h1 h2
    subst h1
    simp only[cond_true]
    cases hb2:Nat.beq s1 s with
    |true=>have:=Nat.eq_of_beq_eq_true hb2;omega
    |false=>exact .junk
  |_=>simp[AV.isName] at hx
 refine⟨ρ',h.convT (g:=stealG k s q) (fun j=>if j=q then k else j) rfl (fun _=>rfl) leaf (fun j o ho=>?_) (fun j ho=>?_) (fun j x b hj hb=>?_) (fun j j' x x' b hj hj' hb hb' ht=>?_) fun j hj x hx=>?_⟩
 ·simp only[ST.steal] at ho
  by_cases h1:j=q
  ·subst h1
   rw[upd_same] at ho
   injection ho with ho
   subst ho
   exact⟨hv,xs,e1,hown,hf,fun i jj x hi hx=>(hr i jj x hi hx).tr (fun b hb=>⟨hG b hb,rfl⟩) _ (Le.refl _)⟩
  ·rw[upd_other _ _ h1] at ho
   by_cases h2:j=k
   ·subst h2
    rw[upd_same] at ho
    injection ho with ho
    subst ho
    exact⟨.slice none 0 0,[],e2,⟨by simp,.inl ⟨rfl,rfl⟩⟩,(fun i hi=>absurd hi (by omega)),fun i j x hi=>absurd hi (by omega)⟩
   ·rw[upd_other _ _ h2] at ho
    simp only[Option.map_eq_some_iff] at ho
    obtain⟨o1,ho1,rfl⟩:=ho
    exact(h.ob j o1 ho1).map hG leaf (e3 j h2 h1)
 ·simp only[ST.steal] at ho
  by_cases h1:j=q
  ·subst h1;rw[upd_same] at ho;cases ho
  ·rw[upd_other _ _ h1] at ho
   by_cases h2:j=k
   ·subst h2;rw[upd_same] at ho;cases ho
   ·rw[upd_other _ _ h2] at ho
    rw[e3 j h2 h1]
    exact h.no j (by simpa using ho)
 ·rcases hcase j x b hj hb with⟨rfl,h1,h2⟩|⟨h1,h2,h3⟩
  ·exact⟨_,by rw[if_pos rfl];exact h1,h2⟩
  ·exact⟨x,by rw[if_neg h2];exact h3,hb⟩
 ·rcases hcase j x b hj hb with⟨rfl,_,_⟩|⟨h1,h2,_⟩<;>rcases hcase j' x' b hj' hb' with⟨rfl,_,_⟩|⟨h1',h2',_⟩
  ·rfl
  ·rw[if_pos rfl,if_neg h2'] at ht;exact absurd ht.symm h1'
  ·rw[if_pos rfl,if_neg h2] at ht;exact absurd ht h1
  ·rwa[if_neg h2,if_neg h2'] at ht
 ·have hjq:j≠q:=fun e=>by have:=Nat.le_of_ble_eq_true hqm;omega
  by_cases h2:j=k
  ·subst h2
   rcases h.le j hj x hx with h1|⟨s0,v0,s1,v1,h1,h3,h4⟩
   ·rw[hg] at h1;injection h1 with h1;exact .inr ⟨s,hv,s+1,_,h1.symm,e2,Nat.lt_succ_self s⟩
   ·rw[hg] at h3;injection h3 with h3;injection h3 with h3 _;exact .inr ⟨s0,v0,s+1,_,h1,e2,by omega⟩
  ·rw[e3 j h2 hjq];exact h.le j hj x hx
def AvS (x y:AV):Prop:=∀w G ρ v,R w G ρ x v→R w G ρ y v
def AvSL:List AV→List AV→Prop
 |[],[]=>True
 |x::l,y::l'=>AvS x y∧AvSL l l'
 |_,_=>False
theorem AvS.refl (x:AV):AvS x x:=fun _ _ _ _ h=>h
theorem AvSL.refl:∀l,AvSL l l
 |[]=>trivial
 |x::l=>⟨AvS.refl x,AvSL.refl l⟩
theorem AvSL.at_:∀{l l':List AV},AvSL l l'→l.length=l'.length∧∀(i:Nat) (y:AV),l'[i]?=some y→∃x,l[i]?=some x∧AvS x y
 |[],[],_=>⟨rfl,fun i y h=>by simp at h⟩
 |x::l,y::l',h=>by
  obtain⟨h1,h2⟩:=AvSL.at_ h.2
  refine⟨by simp[h1],fun i z hz=>?_⟩
  cases i with
  |zero=>simp at hz;subst hz;exact⟨x,rfl,h.1⟩
  |succ i=>exact h2 i z (by simpa using hz)
 |[],_::_,h=>h.elim
 |_::_,[],h=>h.elim
theorem AvS.nil {sz:Nat} {f:Nat→List AV}:AvS (.c (.slice none 0 0)) (.rs sz 0 f):=by
 intro w G ρ v h
 rw[h.c_inv]
 exact .rs (fun _ _=>undef) (Nat.le_refl _) (Nat.zero_le _) (fun h=>absurd h (by simp)) (fun i hi=>absurd hi (by simp)) (fun i j x hi=>absurd hi (by simp))
theorem AvS.agg {l l':List AV} (h:AvSL l l'):AvS (.agg l) (.agg l'):=by
 intro w G ρ v hv
 obtain⟨h1,h2⟩:=h.at_
 obtain⟨cs,rfl,hs,hc⟩:=hv.agg_inv
 refine .agg (by omega) fun i y hy=>?_
 obtain⟨x,hx,hxy⟩:=h2 i y hy
 exact hxy _ _ _ _ (hc i x hx)
theorem AvS.rs {sz n:Nat} {f f':Nat→List AV} (h:∀i,i<n→AvSL (f i) (f' i)):AvS (.rs sz n f) (.rs sz n f'):=by
 intro w G ρ v hv
 cases hv with
 |rs val hn hm hc hl hr=>
  refine .rs val hn hm hc (fun i hi=>by rw[←((h i hi).at_).1];exact hl i hi) fun i j y hi hy=>?_
  obtain⟨x,hx,hxy⟩:=(h i hi).at_.2 j y hy
  exact hxy _ _ _ _ (hr i j x hi hx)
theorem Does.weaken {P:Program} {f:FuncId} {args:List AV} {res res':AV} (h:Does P f args res) (hr:AvS res res'):Does P f args res':=
 ⟨h.1,fun w G vs hs hG hgl ha=>(h.2 w G vs hs hG hgl ha).mono fun e w' ⟨v,h1,h2,h3⟩=>⟨v,h1,h2,hr _ _ _ _ h3⟩⟩
theorem Does.argS {P:Program} {f:FuncId} {args args':List AV} {res:AV} (h:Does P f args res) (ha:AvSL args' args):Does P f args' res:=
 ⟨h.1,fun w G vs hs hG hgl hx=>h.2 w G vs (by rw[←ha.at_.1];exact hs) hG hgl fun i y hy=>by
  obtain⟨x,hx',hxy⟩:=ha.at_.2 i y hy
  exact hxy _ _ _ _ (hx i x hx')⟩
def obF (B e sz:Nat) (F:Nat→Nat×(Nat→List AV)) (O:List (Nat×Ob)):Nat→Option Ob:=fun j=>bif Nat.ble B j then some (.vec e sz 0 (F (j-B)).1 (F (j-B)).2) else mkOb O j
def obQ (B e sz:Nat) (F:Nat→Nat×(Nat→List AV)) (q k:Nat) (m:Nat) (M R:Ob) (O:List (Nat×Ob)):Nat→Option Ob:=fun j=>
 bif Nat.ble B j then(bif Nat.beq j (B+m) then none else some (.vec e sz 0 (F (j-B)).1 (F (j-B)).2)) else bif Nat.beq j q then some R else bif Nat.beq j k then some M else mkOb O j
section
variable {E:Env} {st st':ST} {a:Act} {w:World} {ρ ρ':Rho}
theorem ObOk.keepP {G G':Nat→Prop} (hG:∀b,G b→G' b) {p:Nat→Bool} (hp:∀j,p j=true→ρ' j=ρ j) {j:Nat} {o:Ob} (h:ObOk w G ρ j o) (hj:p j=true) (hk:o.ks p=true):ObOk w G' ρ' j o:=by
 have mv:∀{x v},R w G ρ x v→x.ks p=true→R w G' ρ' x v:=fun hx hks=>(hx.tr (fun b hb=>⟨hG b hb,rfl⟩) _ (Le.refl _)).cut p _ hp hks
 cases o with
 |cells t cs=>
  obtain⟨g,arr,hk',hh,hs,hr⟩:=h
  exact⟨g,arr,(hp j hj).trans hk',hh,hs,fun i x hx=>mv (hr i x hx) (AV.ksL_at hk hx)⟩
 |vec e sz s n f=>
  obtain⟨hv,xs,hk',hown,hf,hr⟩:=h
  exact⟨hv,xs,(hp j hj).trans hk',hown,hf,fun i j x hi hx=>((hr i j x hi hx).tr (fun b hb=>⟨hG b hb,rfl⟩) _ (Le.refl _))⟩
 |mapo=>simp[Ob.ks] at hk
 |mapb kk zv d f=>
  obtain⟨g,es,clock,hk',hh,hs,hr⟩:=h
  exact⟨g,es,clock,(hp j hj).trans hk',hh,hs,fun z hz=>by
   obtain⟨r,h1,h2,h3⟩:=hr z hz
   exact⟨r,h1,h2,h3.tr (fun b hb=>⟨hG b hb,rfl⟩) _ (Le.refl _)⟩⟩
 |lrec mk b cs=>
  obtain⟨arr,hk',hh,hs,hr⟩:=h
  exact⟨arr,(hp j hj).trans hk',hh,hs,fun i x hx=>mv (hr i x hx) (AV.ksL_at hk hx)⟩
theorem SatR.reob (h:SatR E st a w ρ) (p:Nat→Bool) (τ:Nat→Nat) (hnt:st'.nt=st.nt) (hp:∀j,p j=true→ρ' j=ρ j)
  (hfr:∀j,st'.fr j=.junk∨(AvIs (st.fr j) (st'.fr j)∧(st'.fr j).ks p=true))
  (hsub:∀j x,ρ' j=some x→∀b,x.block=some b→∃y,ρ (τ j)=some y∧y.block=some b)
  (hτ:∀j j' x x' b b',ρ' j=some x→ρ' j'=some x'→x.block=some b→x'.block=some b'→τ j=τ j'→j=j')
  (hob:(∀b,E.good w ρ b→E.good w ρ' b)→∀j o,st'.ob j=some o→ObOk w (E.good w ρ') ρ' j o)
  (hno:∀j,st'.ob j=none→ρ' j=none) (hN:∀j,j<E.N→p j=true):SatR E st' a w ρ':=by
 have hG:∀b,E.good w ρ b→E.good w ρ' b:=fun b ⟨h0,hlt,hno⟩=>⟨h0,hlt,fun j y hj hy=>by
  obtain⟨z,hz,hzb⟩:=hsub j y hj b hy
  exact hno _ z hz hzb⟩
 refine⟨h.keep,hnt▸h.tsz,h.dfr.tr (fun b hb=>⟨hG b hb,rfl⟩),h.gl.tr (fun b hb=>⟨hG b hb,rfl⟩),fun j=>?_,hob hG,hno,fun j j' y y' b hj hj' hy hy'=>?_,fun j y b hj hy=>?_,fun j hj x hx=>by rw[hp j (hN j hj)];exact h.le j hj x hx⟩
 ·rcases hfr j with h1|⟨h1,h2⟩
  ·rw[h1];exact .junk
  ·exact((h1.ok (h.fr j)).tr (fun b hb=>⟨hG b hb,rfl⟩) _ (Le.refl _)).cut p _ hp h2
 ·obtain⟨z,hz,hzb⟩:=hsub j y hj b hy
  obtain⟨z',hz',hzb'⟩:=hsub j' y' hj' b hy'
  exact hτ j j' y y' b b hj hj' hy hy' (h.dis _ _ z z' b hz hz' hzb hzb')
 ·obtain⟨z,hz,hzb⟩:=hsub j y hj b hy
  exact h.own _ z b hz hzb
theorem mkFr_cases {L:List (Nat×AV)}:∀j,mkFr L j=.junk∨∃x∈L,x.2=mkFr L j:=by
 intro j
 induction L with
 |nil=>exact .inl rfl
 |cons y L ih=>
  obtain⟨i,x⟩:=y
  simp only[mkFr]
  cases hb:Nat.beq i j with
  |true=>exact .inr ⟨(i,x),by simp,by rw[cond_true]⟩
  |false=>
   rw[cond_false]
   rcases ih with h|⟨z,hz,he⟩
   ·exact .inl h
   ·exact .inr ⟨z,by simp[hz],he⟩
theorem mkOb_cases {O:List (Nat×Ob)} {j:Nat} {o:Ob} (h:mkOb O j=some o):(j,o)∈O:=by
 induction O with
 |nil=>cases h
 |cons y O ih=>
  obtain⟨i,x⟩:=y
  simp only[mkOb] at h
  cases hb:Nat.beq i j with
  |true=>
   rw[hb,cond_true] at h
   injection h with h
   subst h
   rw[←Nat.eq_of_beq_eq_true hb]
   simp
  |false=>
   rw[hb,cond_false] at h
   simp[ih h]
theorem ble_false {m n:Nat} (h:n<m):Nat.ble m n=false:=by
 cases hb:Nat.ble m n with
 |false=>rfl
 |true=>have:=Nat.le_of_ble_eq_true hb;omega
theorem beq_false {m n:Nat} (h:m≠n):Nat.beq m n=false:=by
 cases hb:Nat.beq m n with
 |false=>rfl
 |true=>exact absurd (Nat.eq_of_beq_eq_true hb) h
theorem row_frozen (h:SatR E st a w ρ) {j e sz s n:Nat} {f:Nat→List AV} (ho:st.ob j=some (.vec e sz s n f)) {ρ':Rho} {v:Value} (hv:R w (E.good w ρ) ρ (.vec j s) v)
  (hG:∀b,E.good w ρ b→E.good w ρ' b) (hno:∀b hv,ρ j=some (.hdr s hv)→hv.ownBlock=some b→∀i x,ρ' i=some x→x.block≠some b) {ρ1:Rho}:R w (E.good w ρ') ρ1 (.rs sz n f) v:=by
 obtain⟨hv',xs,hg,hown,hf,hr⟩:=h.ob j _ ho
 have:=hv.vec_inv hg
 subst this
 obtain⟨hxl,hcase⟩:=hown
 rcases hcase with⟨rfl,rfl⟩|⟨g,cap,cur,rfl,_,hh,hnc,hm,hsz,htake⟩
 ·exact .rs (fun _ _=>undef) (Nat.le_refl _) (Nat.zero_le _) (fun h0=>absurd h0 (by omega)) hf (fun i j x hi=>absurd hi (by omega))
 ·have hidx:∀i q,i<n→q<sz→i*sz+q<n*sz:=by
   intro i q hi hq
   have:(i+1)*sz≤n*sz:=Nat.mul_le_mul_right sz hi
   rw[Nat.add_mul] at this;omega
  have hblk:(RV.hdr s (Value.slice (some ⟨g,0,none⟩) n cap)).block=some g:=rfl
  refine .rs (fun i q=>xs.getD (i*sz+q) undef) hnc hm (fun _=>⟨_,rfl,⟨?_,?_,?_⟩,fun i q hi hq=>?_⟩) hf (fun i q x hi hx=>(hr i q x hi hx).tr (fun b hb=>⟨hG b hb,rfl⟩) _ (Le.refl _))
  ·exact .inr (h.own j _ g hg rfl)
  ·exact h.lt hg rfl
  ·intro i y hi hy
   exact hno g _ hg rfl i y hi hy
  ·have hlt:=hidx i q hi hq
   have hlc:i*sz+q<cur.size:=by
    have:=Nat.mul_le_mul_right sz hnc
    rw[hsz];omega
   have:cur[i*sz+q]?=xs[i*sz+q]?:=by
    rw[←htake,List.getElem?_take,if_pos hlt];simp
   rw[Addr.add_lit,Nat.zero_add]
   simp only[World.cell?,hh]
   simp[List.getD,←this,hlc]
def smallN (B j:Nat):Bool:=Nat.blt j B
def keptF (B:Nat) (L:List (Nat×AV)) (k:Nat) (O:List (Nat×Ob)):Bool:=
 L.all (fun x=>x.2.ks (smallN B))&&O.all (fun o=>o.2.ks (smallN B))&&O.all (fun o=>smallN B o.1)&&smallN B k
theorem smallN_lt {B j:Nat} (h:smallN B j=true):j<B:=Nat.lt_of_succ_le (Nat.le_of_ble_eq_true h)
theorem smallN_of {B j:Nat} (h:j<B):smallN B j=true:=Nat.ble_eq_true_of_le h
theorem keptF_ok {B:Nat} {L:List (Nat×AV)} {k:Nat} {O:List (Nat×Ob)} (h:keptF B L k O=true):(∀x∈L,x.2.ks (smallN B)=true)∧(∀o∈O,o.2.ks (smallN B)=true)∧(∀o∈O,o.1<B)∧k<B:=by
 simp only[keptF,Bool.and_eq_true,List.all_eq_true] at h
 exact⟨h.1.1.1,h.1.1.2,fun o ho=>smallN_lt (h.1.2 o ho),smallN_lt h.2⟩
theorem obF_lt {B e sz:Nat} {F:Nat→Nat×(Nat→List AV)} {O:List (Nat×Ob)} {j:Nat} (h:j<B):obF B e sz F O j=mkOb O j:=by
 unfold obF;rw[ble_false h,cond_false]
theorem obF_ge {B e sz:Nat} {F:Nat→Nat×(Nat→List AV)} {O:List (Nat×Ob)} {j:Nat} (h:B≤j):obF B e sz F O j=some (.vec e sz 0 (F (j-B)).1 (F (j-B)).2):=by
 unfold obF;rw[Nat.ble_eq_true_of_le h,cond_true]
theorem mkOb_cons {k j:Nat} {o:Ob} {O:List (Nat×Ob)}:mkOb ((k,o)::O) j=if j=k then some o else mkOb O j:=by
 simp only[mkOb]
 by_cases h:j=k
 ·subst h;simp
 ·rw[beq_false (Ne.symm h),cond_false,if_neg h]
theorem ks_two {p p':Nat→Bool} {x:AV}:x.ks p=true→x.ks p'=true→x.ks (fun j=>p j&&p' j)=true:=by
 refine AV.rec (motive_1:=fun x=>x.ks p=true→x.ks p'=true→x.ks (fun j=>p j&&p' j)=true)
  (motive_2:=fun l=>AV.ksL p l=true→AV.ksL p' l=true→AV.ksL (fun j=>p j&&p' j) l=true) ?_ ?_ ?_ ?_ ?_ ?_ ?_ ?_ ?_ ?_ ?_ ?_ ?_ ?_ x
 all_goals intros;simp_all [AV.ks,AV.ksL]
theorem ksL_two {p p':Nat→Bool}:∀{l:List AV},AV.ksL p l=true→AV.ksL p' l=true→AV.ksL (fun j=>p j&&p' j) l=true
 |[],_,_=>rfl
 |a::l,h,h'=>by
  simp only[AV.ksL,Bool.and_eq_true] at h h' ⊢
  exact⟨ks_two h.1 h'.1,ksL_two h.2 h'.2⟩
theorem obks_two {p p':Nat→Bool} {o:Ob} (h:o.ks p=true) (h':o.ks p'=true):o.ks (fun j=>p j&&p' j)=true:=by
 cases o with
 |cells t cs=>exact ksL_two h h'
 |vec=>rfl
 |mapo=>simp[Ob.ks] at h
 |mapb=>rfl
 |lrec mk b cs=>exact ksL_two h h'
def keptC (B:Nat) (L:List (Nat×AV)) (k q n:Nat) (O:List (Nat×Ob)):Bool:=
 (L.all (fun x=>x.2.ks (fun j=>smallN B j&&(Nat.beq j k||(mkOb O j).isSome)))&&O.all (fun o=>o.2.ks (fun j=>smallN B j&&(Nat.beq j k||(mkOb O j).isSome))))&&
 (O.all (fun o=>smallN B o.1)&&smallN B k)&&((mkOb O q).isNone&&!Nat.beq q k&&smallN B q)&&((List.range n).all (fun j=>Nat.beq j k||(mkOb O j).isSome)&&Nat.ble n B)
theorem upd_big {α:Type} {f:Nat→α} {B k j:Nat} {v:α} (hj:B≤j) (hk:Nat.blt k B=true):upd f k v j=f j:=upd_other _ _ (by have:=Nat.lt_of_succ_le (Nat.le_of_ble_eq_true hk);omega)
theorem obQ_ge {B e sz:Nat} {F:Nat→Nat×(Nat→List AV)} {q k m j:Nat} {M R:Ob} {O:List (Nat×Ob)} (hj:B≤j):obQ B e sz F q k m M R O j=(bif Nat.beq j (B+m) then none else some (.vec e sz 0 (F (j-B)).1 (F (j-B)).2)):=by
 unfold obQ;rw[Nat.ble_eq_true_of_le hj,cond_true]
def keptD (B:Nat) (L:List (Nat×AV)) (k n:Nat) (O:List (Nat×Ob)):Bool:=
 (L.all (fun x=>x.2.ks (fun j=>smallN B j&&(Nat.beq j k||(mkOb O j).isSome)))&&O.all (fun o=>o.2.ks (fun j=>smallN B j&&(Nat.beq j k||(mkOb O j).isSome))))&&
 (O.all (fun o=>smallN B o.1)&&smallN B k)&&((List.range n).all (fun j=>Nat.beq j k||(mkOb O j).isSome)&&Nat.ble n B)
theorem ST.stamp_vec {st:ST} {B k s t j e sz s' n:Nat} {o:Ob} {f:Nat→List AV} (hj:B≤j) (hk:Nat.blt k B=true) (h:st.ob j=some (.vec e sz s' n f)):(st.stamp k s t o).ob j=some (.vec e sz s' n f):=by
 unfold ST.stamp
 simp only
 rw[upd_big hj hk,h]
 rfl
end
end Go.Eng
end
section
namespace Go.Eng
mutual
theorem frc_self:∀a:AV,frc a=some a
 |.junk=>rfl
 |.c _=>rfl
 |.agg l=>by simp[frc,frcL_self l]
 |.tup l=>by simp[frc,frcL_self l]
 |.ptr k off=>by cases k<;>rfl
 |.mp k=>by cases k<;>rfl
 |.vptr k s sz i off=>by cases k<;>rfl
 |.rptr _=>rfl
 |.rs _ _ _=>rfl
 |.vec k s=>by cases k<;>rfl
 |.fn _ _ _=>rfl
 |.gd g a=>by simp[frc,frc_self a]
theorem frcL_self:∀l:List AV,frcL l=some l
 |[]=>rfl
 |a::l=>by simp[frcL,frc_self a,frcL_self l]
end
def recOf (fn:FuncId) (ps:Array Tmp) (assign body:Code) (D:Nat) (s:LoopState) (pend:Option Code):Array Value→Obj:=
 fun tmps=>.loop {state:=s,pending:=pend,fn:=fn,tmps:=tmps,params:=ps,assign:=assign,body:=body,defers:=D}
def yieldF (st:ST) (op:Op):Option (Nat×List AV):=
 match op with
 |.call c=>match c.callee with
  |.value f=>match strip (st.ev f) with
   |.fn (.yield l) [] []=>some (l,c.args.toList.map (fun x=>strip (st.ev x)))
   |_=>none
  |_=>none
 |_=>none
def CY (P:Program) (l:Nat) (vs:Array Value) (w:World) (Rr:Ending→World→Prop):Prop:=
 ∃fn tmps assign body,(Instr.yield l vs).run P w=.ok (.round l fn tmps assign body) w∧RoundIn (FW none) 0 P l fn tmps assign body w Rr
theorem CY.mono {P:Program} {l:Nat} (vs:Array Value) (w:World) (R R':Ending→World→Prop) (h:CY P l vs w R) (hr:∀e w',R e w'→R' e w'):CY P l vs w R':=by
 obtain⟨fn,tmps,assign,body,h1,h2⟩:=h
 exact⟨fn,tmps,assign,body,h1,h2.mono hr⟩
def DoesR (P:Program) (l:Nat):List AV→List Ob→AV→List Ob→Prop:=DoesX (CY P l) P
section
variable {E:Env} {st:ST} {a:Act} {w:World} {ρ:Rho} {T:TE}
theorem yield_run (h:SatR E st a w ρ) {o:Oper} {l:Nat} {args:List AV} (hc:yieldF st o.op=some (l,args)) {gc:Option Bool} (hgc:∀g,gc=some g→g=true) (ho:∀p∈o.op.operands.toList.flatMap (fun x=>oblG gc (st.ev x)),p):
  ∃vs:Array Value,(∀P w,(execOp a.eval o).run P w=(Instr.yield l vs).run P w)∧vs.size=args.length∧∀i x,args[i]?=some x→R w (E.good w ρ) ρ x (vs.getD i undef):=by
 obtain⟨dst,op,type,pos,after,guard⟩:=o
 simp only at hc ho
 unfold yieldF at hc
 split at hc
 ·rename_i c
  obtain⟨callee,cargs,tys⟩:=c
  simp only at hc
  split at hc
  ·rename_i fo
   split at hc
   ·rename_i l' hfn
    simp only[Option.some.injEq,Prod.mk.injEq] at hc
    obtain⟨rfl,rfl⟩:=hc
    have hst:∀x∈(Op.call {callee:=.value fo,args:=cargs,argTypes:=tys}).operands,R w (E.good w ρ) ρ (strip (st.ev x)) (a.eval x):=fun x hx=>
     strip_ok hgc (fun p hp=>ho p (List.mem_flatMap.2 ⟨x,by simpa using hx,hp⟩)) (h.ev x)
    have hfv:=hst fo (by simp[Op.operands,Call.operands])
    rw[hfn] at hfv
    generalize hev:a.eval fo=fv at hfv
    cases hfv with
    |@fn _ _ _ _ fs cs h1 h2 h3 h4=>
     obtain rfl:fs=#[]:=Array.eq_empty_of_size_eq_zero (by simpa using h1)
     obtain rfl:cs=#[]:=Array.eq_empty_of_size_eq_zero (by simpa using h3)
     refine⟨cargs.map a.eval,fun P w=>?_,by simp,fun i x hx=>?_⟩
     ·simp[execOp,resolve,hev,Deferred.ofValue,invoke]
     ·simp only[List.getElem?_map,Option.map_eq_some_iff] at hx
      obtain⟨u,hu,rfl⟩:=hx
      rw[getD_map cargs i u (by simpa using hu)]
      exact hst u (by simp[Op.operands,Call.operands];exact .inr (by simpa using List.mem_of_getElem? hu))
   ·cases hc
  ·cases hc
 ·cases hc
theorem yieldM_wp (h:SatR E st a w ρ) {o:Oper} {l:Nat} {args args1 args':List AV} {res res1:AV} {O O':List Ob} {K:List Nat} {obs:List (Nat×Ob)} (hc:yieldF st o.op=some (l,args)) {gc:Option Bool} (hgc:∀g,gc=some g→g=true) (ho:∀p∈o.op.operands.toList.flatMap (fun x=>oblG gc (st.ev x)),p)
  (hdst:dstOk st o=true) (hP:DoesR E.P l args' O res O') (hfa:frcL (AV.mapL (renG (posF (K.take O.length))) args)=some args1) (ha:AvIsL args1 args') (hd:nodupB K=true)
  (hv:ViewIs st.ob (posF (K.take O.length)) (K.take O.length) O) (hnew:(K.drop O.length).all (fun k=>(st.ob k).isNone)=true) (hob:backF (renG (fun i=>K[i]?)) K O'=some obs) (hres:frc (res.map (renG (fun i=>K[i]?)))=some res1)
  {Q:Exit→Act→World→Prop}:o.wpIn (FW E.rd) 0 E.P a w (fun a' w'=>Sat E (st.appM o.dst ⟨res1,obs⟩) a' w') Q:=by
 obtain⟨vs,h1,h2,h3⟩:=yield_run h hc hgc ho
 have hfa:=frcL_eq hfa
 have hres:=frc_eq hres
 subst hfa hres
 obtain⟨hl,hat⟩:=ha.at
 rw[AV.mapL_length] at hl
 have key:CY E.P l vs w (fun e w'=>∃v,e=.returned v∧Sat E (st.appM o.dst ⟨res.map (renG (fun i=>K[i]?)),obs⟩) (a.put o.dst v) w'):=by
  refine SatR.calledX (C:=CY E.P l) CY.mono h h (fun _ _ h=>h) hP (.inl rfl) hd hv hnew hob (by omega) (fun i y hy=>?_) (next:=fun _ _=>True) (Q':=fun _ _ _=>True) fun v w' ρ' hm hle hG hr=>?_
  ·have hlt:i<args.length:=by
    have:=(List.getElem?_eq_some_iff.1 hy).1
    omega
   have hx:=List.getElem?_eq_getElem hlt
   exact⟨_,h3 i _ hx,hat i _ y (mapL_at hx) hy⟩
  ·have h0:SatR E {st with ob:=putAll st.ob obs} a w' ρ':=⟨hm.keep,h.tsz,h.dfr.tr hG,h.gl.tr hG,fun k=>(h.fr k).tr hG _ hle,hm.ob,hm.no,hm.dis,hm.own,hm.le⟩
   refine⟨v,rfl,ρ',?_⟩
   have hdl:=dstOk_lt hdst
   cases hod:o.dst with
   |none=>exact h0
   |some d=>exact h0.put (hdl d hod) hr
 obtain⟨fn,tmps,assign,body,hy,hround⟩:=key
 refine wpIn_run ((h1 _ _).trans hy) (fun _ e=>by cases e) ⟨(fun e=>by cases e),?_⟩
 refine RoundIn.mono (show RoundIn (FW E.rd) 0 E.P l fn tmps assign body w _ from hround) ?_
 rintro e w' ⟨v,rfl,hs⟩
 exact hs
theorem StepTo.yieldM {ops:Array Oper} {o:Oper} {l:Nat} {args args1 args':List AV} {res res1:AV} {O O':List Ob} {K:List Nat} {obs:List (Nat×Ob)} (hc:yieldF st o.op=some (l,args)) (hg:o.guard=none) (hdst:dstOk st o=true) (ho:AllP (o.op.operands.toList.flatMap (fun x=>oblG none (st.ev x))))
  (hP:DoesR E.P l args' O res O') (hfa:frcL (AV.mapL (renG (posF (K.take O.length))) args)=some args1) (ha:AvIsL args1 args') (hd:nodupB K=true)
  (hv:ViewIs st.ob (posF (K.take O.length)) (K.take O.length) O) (hnew:(K.drop O.length).all (fun k=>(st.ob k).isNone)=true) (hob:backF (renG (fun i=>K[i]?)) K O'=some obs) (hres:frc (res.map (renG (fun i=>K[i]?)))=some res1):
  StepTo E ops o st (st.appM o.dst ⟨res1,obs⟩):=by
 intro a w ⟨ρ,h⟩ Q
 rw[if_pos (by simp[Region.wanted,hg])]
 exact yieldM_wp h hc (fun g e=>by cases e) (AllP.mem ho) hdst hP hfa ha hd hv hnew hob hres
theorem StepTo.yieldMG {ops:Array Oper} {o:Oper} {j l:Nat} {pol g:Bool} {args args1 args':List AV} {res res1:AV} {O O':List Ob} {K:List Nat} {obs:List (Nat×Ob)} (hc:yieldF st o.op=some (l,args)) (hg:o.guard=some (j,pol)) (hgv:gval st ops.toList j pol=some g) (hgt:g=true) (hdst:dstOk st o=true) (hda:ops.toList.all (dstOk st)=true)
  (ho:AllP (o.op.operands.toList.flatMap (fun x=>oblG (some g) (st.ev x))))
  (hP:DoesR E.P l args' O res O') (hfa:frcL (AV.mapL (renG (posF (K.take O.length))) args)=some args1) (ha:AvIsL args1 args') (hd:nodupB K=true)
  (hv:ViewIs st.ob (posF (K.take O.length)) (K.take O.length) O) (hnew:(K.drop O.length).all (fun k=>(st.ob k).isNone)=true) (hob:backF (renG (fun i=>K[i]?)) K O'=some obs) (hres:frc (res.map (renG (fun i=>K[i]?)))=some res1):
  StepTo E ops o st (st.appM o.dst ⟨res1,obs⟩):=by
 intro a w ⟨ρ,h⟩ Q
 have hwv:Region.wanted o (yielded ops a.tmps)=g:=by
  have:=gval_ok h hgv (fun o' d h1 h2=>dstOk_lt (List.all_eq_true.1 hda o' (Array.mem_toList_iff.2 (Array.mem_of_getElem? h1))) d h2)
  simp only[Region.wanted,hg,this]
 rw[if_pos (hwv.trans hgt)]
 exact yieldM_wp h hc (fun g' e=>by injection e with e;exact e▸hgt) (AllP.mem ho) hdst hP hfa ha hd hv hnew hob hres
end
section
variable {E:Env} {Q:Exit→ST→Prop} {ops:Array Oper} {o:Oper} {rest:List Oper} {l d:Nat} {args args1 args':List AV} {res res1:AV} {O O':List Ob} {K:List Nat} {obs:List (Nat×Ob)} {fr:Nat→AV} {ob:Nat→Option Ob} {nx nt:Nat} {md:Nat→Bool} {P:Program} {k:List It}
theorem XL.yieldM (K:List Nat) (hE:E.P=P) (hc:yieldF ⟨fr,ob,nx,nt,md⟩ o.op=some (l,args)) (hg:o.guard=none) (hds:o.dst=some d) (hdl:Nat.blt d nt=true) (ho:AllP (o.op.operands.toList.flatMap (fun x=>oblG none (ST.ev ⟨fr,ob,nx,nt,md⟩ x))))
  (hP:DoesR P l args' O res O') (hfa:frcL (AV.mapL (renG (posF (K.take O.length))) args)=some args1) (ha:AvIsL args1 args') (hd:nodupB K=true)
  (hv:ViewIs ob (posF (K.take O.length)) (K.take O.length) O) (hnew:(K.drop O.length).all (fun k=>(ob k).isNone)=true) (hob:backF (renG (fun i=>K[i]?)) K O'=some obs) (hres:frc (res.map (renG (fun i=>K[i]?)))=some res1)
  (h:XL E ops Q rest ⟨upd fr d res1,putAll ob obs,nx,nt,md⟩):XL E ops Q (o::rest) ⟨fr,ob,nx,nt,md⟩:=by
 refine XL.step (StepTo.yieldM hc hg (by simp[dstOk,hds,hdl]) ho (hE▸hP) hfa ha hd hv hnew hob hres) ?_
 rw[hds];exact h
theorem XL.yieldMG {j:Nat} {pol g:Bool} (K:List Nat) (x:AV) (hE:E.P=P) (hc:yieldF ⟨fr,ob,nx,nt,md⟩ o.op=some (l,args)) (hg:o.guard=some (j,pol)) (hgv:gval ⟨fr,ob,nx,nt,md⟩ ops.toList j pol=some g) (hds:o.dst=some d) (hdl:Nat.blt d nt=true) (hda:ops.toList.all (dstOk ⟨fun _=>.junk,fun _=>none,nx,nt,md⟩)=true)
  (hf:g=false→XL E ops Q rest ⟨upd fr d (.gd false x),ob,nx,nt,md⟩)
  {obl':List Prop} (hfo:frcP (o.op.operands.toList.flatMap (fun x=>oblG (some g) (ST.ev ⟨fr,ob,nx,nt,md⟩ x)))=some obl') (ho:g=true→AllP obl')
  (hP:g=true→DoesR P l args' O res O') (hfa:frcL (AV.mapL (renG (posF (K.take O.length))) args)=some args1) (ha:AvIsL args1 args') (hd:nodupB K=true)
  (hv:g=true→ViewIs ob (posF (K.take O.length)) (K.take O.length) O) (hnew:(K.drop O.length).all (fun k=>(ob k).isNone)=true) (hob:backF (renG (fun i=>K[i]?)) K O'=some obs) (hres:frc (res.map (renG (fun i=>K[i]?)))=some res1)
  (h:g=true→XL E ops Q rest ⟨upd fr d res1,putAll ob obs,nx,nt,md⟩):XL E ops Q (o::rest) ⟨fr,ob,nx,nt,md⟩:=by
 cases hgb:g with
 |false=>
  refine XL.step (StepTo.skip x hg hgv hgb (by simp[dstOk,hds,hdl]) hda) ?_
  rw[hds];exact hf hgb
 |true=>
  refine XL.step (StepTo.yieldMG hc hg hgv hgb (by simp[dstOk,hds,hdl]) hda (frcP_eq hfo▸ho hgb) (hE▸hP hgb) hfa ha hd (hv hgb) hnew hob hres) ?_
  rw[hds];exact h hgb
end
section
variable {E:Env} {st:ST} {a:Act} {w:World} {ρ:Rho}
theorem SatR.recSet (h:SatR E st a w ρ) {k b:Nat} {mk mk':Array Value→Obj} {cs:List AV} (hk:st.ob k=some (.lrec mk b cs)):
  ∃arr,w.heap[b]?=some (mk arr)∧arr.size=cs.length∧(∀i x,cs[i]?=some x→R w (E.good w ρ) ρ x (arr.getD i undef))∧SatR E {st with ob:=upd st.ob k (some (.lrec mk' b cs))} a (w.putObj b (mk' arr)) ρ:=by
 obtain⟨arr,h1,h2,h3,h4⟩:=h.ob k _ hk
 refine⟨arr,h2,h3,h4,?_⟩
 have hu:upd ρ k (some (.blk b))=ρ:=by
  funext j
  by_cases hj:j=k
  ·subst hj;rw[upd_same,h1]
  ·rw[upd_other _ _ hj]
 have hlt:b<w.heap.size:=(Array.getElem?_eq_some_iff.1 h2).1
 have:=h.turn (k:=k) (x:=.blk b) (o:=.lrec mk' b cs) (w':=w.putObj b (mk' arr)) (.inr (.inl h1))
  ⟨rfl,rfl,rfl,by simp,fun b' _ hb=>World.putObj_heap_other fun e=>hb (by rw[h1,e];rfl)⟩ (Nat.le_refl _) (fun b' hb=>.inl (by rw[h1];exact hb)) fun hG hl=>by
   rw[hu] at hG hl ⊢
   exact⟨arr,h1,World.putObj_heap_same hlt,h3,fun i x hx=>(h4 i x hx).tr hG _ hl⟩
 rwa[hu] at this
end
def frPut:List (Tmp×AV)→(Nat→AV)→Nat→AV
 |[],fr=>fr
 |(t,x)::l,fr=>frPut l (upd fr t x)
theorem frPut_ok {w:World} {G:Nat→Prop} {ρ:Rho}:∀(l:List (Tmp×AV)) (vs:List Value) (fr:Nat→AV) (tmps:Array Value),l.length=vs.length→(∀p∈l,p.1<tmps.size)→(∀k,R w G ρ (fr k) (tmps.getD k undef))→
  (∀i p,l[i]?=some p→R w G ρ p.2 (vs.getD i undef))→(((l.map (·.1)).zip vs).foldl (fun t (p:Tmp×Value)=>t.setIfInBounds p.1 p.2) tmps).size=tmps.size∧
  ∀k,R w G ρ (frPut l fr k) ((((l.map (·.1)).zip vs).foldl (fun t (p:Tmp×Value)=>t.setIfInBounds p.1 p.2) tmps).getD k undef)
 |[],_,fr,tmps,_,_,hf,_=>⟨rfl,hf⟩
 |(t,x)::l,[],_,_,h,_,_,_=>by simp at h
 |(t,x)::l,v::vs,fr,tmps,h,hlt,hf,hv=>by
  have ht:t<tmps.size:=hlt (t,x) List.mem_cons_self
  have:=frPut_ok l vs (upd fr t x) (tmps.setIfInBounds t v) (by simpa using h) (fun p hp=>by simpa using hlt p (List.mem_cons_of_mem _ hp)) (fun k=>by
   by_cases hk:k=t
   ·subst hk
    rw[upd_same]
    have:=hv 0 (k,x) rfl
    simpa[ht] using this
   ·rw[upd_other _ _ hk]
    have:=hf k
    simpa[Array.getElem?_setIfInBounds_ne (Ne.symm hk)] using this) (fun i p hp=>by
    have:=hv (i+1) p (by simpa using hp)
    simpa using this)
  simp only[List.map_cons,List.zip_cons_cons,List.foldl_cons,frPut]
  exact⟨by rw[this.1];simp,this.2⟩
theorem obL_upd {x y:Ob} {O:List Ob}:upd (obL (x::O)) 0 (some y)=obL (y::O):=by
 funext k
 cases k with
 |zero=>rfl
 |succ k=>rfl
def RndQ (E:Env) (L:Nat) (fn:FuncId) (ps:Array Tmp) (assign body:Code) (D:Nat) (cs:List AV) (O':List Ob) (out:Option Code):Exit→ST→Prop:=fun e s=>
 (e=.normal∧out=none∨e=.ret∧out=some .ret∨∃id,e=.exit id∧out=some (.exit id))∧∃st',Weak E s st'∧st'.ob=obL (.lrec (recOf fn ps assign body D .busy none) L cs::O')
section
variable {E:Env} {Q:Exit→ST→Prop} {st:ST} {k:List It}
theorem XK.rangeFunc {g:Operand} {ps:Array Tmp} {assign body:Code} (kL:Nat) (K:List Nat) (frs:List AV) (st':ST) {gf:Nat} {caps caps1 args' frs':List AV} {O O':List Ob} {obs:List (Nat×Ob)} {res:AV} {s:LoopState} {pend:Option Code}
  (hrd:E.rd=none) (hg:strip (st.ev g)=.fn (.func gf) [] caps) (hog:AllP (oblG none (st.ev g))) (hkL:st.ob kL=none) (hlen:frs.length=st.nt) (hfrs:∀i x,frs[i]?=some x→x=.junk∨AvIs (st.fr i) x)
  (hP:∀(L D:Nat) (fn:FuncId),DoesM E.P gf (.fn (.yield L) [] []::args') (.lrec (recOf fn ps assign body D .ready none) L frs'::O) res (.lrec (recOf fn ps assign body D s pend) L frs'::O'))
  (hfa:frcL (AV.mapL (renG (posF ((kL::K).take (O.length+1)))) caps)=some caps1) (ha:AvIsL caps1 args') (hfr':AV.mapL (renG (posF ((kL::K).take (O.length+1)))) frs=frs') (hd:nodupB (kL::K)=true)
  (hv:ViewIs st.ob (posF ((kL::K).take (O.length+1))) (K.take O.length) O) (hnew:(K.drop O.length).all (fun k=>(st.ob k).isNone)=true) (hob:backF (renG (fun i=>(kL::K)[i]?)) K O'=some obs) (hs:s≠.busy)
  (hw:∀(L D:Nat) (fn:FuncId) (cs:List AV),Weak E {st with ob:=upd (putAll st.ob obs) kL (some (.lrec (recOf fn ps assign body D .exhausted pend) L cs))} st')
  (h:XK E (match pend with
   |none=>k
   |some c=>.code c::k) Q st'):XK E (.code (.rangeFunc g ps assign body)::k) Q st:=by
 intro a w ⟨ρ,hS⟩
 rw[hrd]
 have hfa:=frcL_eq hfa
 subst hfa hfr'
 have hgv:R w (E.good w ρ) ρ (strip (st.ev g)) (a.eval g):=strip_ok (gc:=none) (fun g e=>by cases e) (AllP.mem hog) (hS.ev g)
 rw[hg] at hgv
 generalize hev:a.eval g=fv at hgv
 cases hgv with
 |@fn _ _ _ _ fs cs q1 q2 q3 q4=>
 obtain rfl:fs=#[]:=Array.eq_empty_of_size_eq_zero (by simpa using q1)
 refine wpIn_rangeFunc (F:=FW none) fun fn _=>?_
 obtain⟨fd,g1,g2,g3⟩:=(hP 0 0 fn).1
 -- the two blocks
 let W0:=w.alloc (.deferred (some []))
 let W1:=W0.alloc (recOf fn ps assign body w.heap.size .ready none a.tmps)
 have hk0:Keep (fun _=>False) w W0:=Keep.of_below ((Go.RowKit.Below.refl _ _).alloc (Nat.le_refl _) _) (Nat.le_refl _)
 have hS0:SatR E st a W0 ρ:=hS.called hk0
 have hW0s:W0.heap.size=w.heap.size+1:=by simp[W0]
 have hD0:W0.heap[w.heap.size]?=some (.deferred (some [])):=World.alloc_heap_new w _
 have hDg:E.good W0 ρ w.heap.size:=⟨.inr (.inl hS.keep.size),by omega,fun k x hx hb=>absurd (hS.lt hx hb) (by omega)⟩
 have hS1:SatR E st {a with defers:=dMark w.heap.size::a.defers} W0 ρ:=by
  refine⟨hS0.keep,hS0.tsz,?_,hS0.gl,hS0.fr,hS0.ob,hS0.no,hS0.dis,hS0.own,hS0.le⟩
  obtain⟨df,d1,d2,d3⟩:=hS.dfr
  obtain⟨df0,e1,e2,e3⟩:=hS0.dfr
  refine⟨w.heap.size::df,by simp[d1],List.nodup_cons.2 ⟨fun hm=>?_,d2⟩,fun D hD=>?_⟩
  ·have:=(d3 _ hm).2.1.2.1
   omega
  ·rcases List.mem_cons.1 hD with rfl|hD
   ·exact⟨hS.keep.size,hDg,hD0⟩
   ·have hd3:=d3 D hD
    refine⟨hd3.1,⟨hd3.2.1.1,by have:=hd3.2.1.2.1;omega,hd3.2.1.2.2⟩,?_⟩
    rw[hk0.block D hd3.2.1.2.1 id]
    exact hd3.2.2
 have hS2:SatR E {st with ob:=upd st.ob kL (some (.lrec (recOf fn ps assign body w.heap.size .ready none) (w.heap.size+1) frs))} {a with defers:=dMark w.heap.size::a.defers} W1 (upd ρ kL (some (.blk (w.heap.size+1)))):=by
  have hn:=hS1.no kL hkL
  refine hS1.turn (.inl hn) (by rw[hn];exact World.grownBy_alloc W0 _ none) (Nat.le_refl _) (fun b hb=>?_) fun hG hl=>?_
  ·injection hb with hb;subst hb;exact .inr (by omega)
  ·refine⟨a.tmps,upd_same _ _ _,?_,?_,fun i x hx=>?_⟩
   ·have:=World.alloc_heap_new W0 (recOf fn ps assign body w.heap.size .ready none a.tmps)
    rwa[hW0s] at this
   ·rw[hS.tsz,hlen]
   ·rcases hfrs i x hx with h0|h0
    ·rw[h0];exact .junk
    ·exact(h0.ok (hS0.fr i)).tr hG _ hl
 refine⟨w.heap.size+1,[dMark w.heap.size],W1,{target:=.fn (.func gf) cs,args:=#[.func (.yield (w.heap.size+1)) #[] #[]]},W1,gf,#[.func (.yield (w.heap.size+1)) #[] #[]]++cs,W1,?_,?_,fun _ _=>trivial,?_,(fun e=>by cases e),?_⟩
 ·exact run_enterLoop_outer _ _ _ _ _
 ·simp only[resolve,hev]
  simp[go_sem]
 ·have hbn:fd.body≠none:=fun e=>by rw[e] at g2;cases g2
  have hnm:fd.name≠ "runtime.NumGoroutine" :=by simpa using g3
  simp[invoke,callFunc,g1,hnm,hbn]
 ·refine Calls.fw ?_ _ _
  have hev2:(({a with defers:=dMark w.heap.size::a.defers}:Act).eval g)=.func (.func gf) #[] cs:=by rw[←hev];cases g<;>rfl
  have hgv2:R W1 (E.good W1 (upd ρ kL (some (.blk (w.heap.size+1))))) (upd ρ kL (some (.blk (w.heap.size+1)))) (.fn (.func gf) [] caps) (.func (.func gf) #[] cs):=by
   have h0:=strip_ok (gc:=none) (fun g e=>by cases e) (AllP.mem hog) (hS2.ev g)
   rw[hev2] at h0
   rw[←hg]
   exact h0
  have hcs:cs.size=caps.length∧∀i x,caps[i]?=some x→R W1 (E.good W1 (upd ρ kL (some (.blk (w.heap.size+1))))) (upd ρ kL (some (.blk (w.heap.size+1)))) x (cs.getD i undef):=by
   cases hgv2 with
   |fn _ _ r3 r4=>exact⟨r3,r4⟩
  have hal:=ha.at
  rw[AV.mapL_length] at hal
  have hkK:∀k∈K,k≠kL:=fun k hk e=>by
   subst e
   simp only[nodupB,Bool.and_eq_true,Bool.not_eq_true',List.any_eq_false] at hd
   exact hd.1 k hk (by simp)
  have hvv:∀(K':List Nat) (O1:List Ob),(∀k∈K',k≠kL)→ViewIs st.ob (posF ((kL::K).take (O.length+1))) K' O1→
    ViewIs (upd st.ob kL (some (.lrec (recOf fn ps assign body w.heap.size .ready none) (w.heap.size+1) frs))) (posF ((kL::K).take (O.length+1))) K' O1:=by
   intro K'
   induction K' with
   |nil=>
    intro O1 _ hvw
    cases O1 with
    |nil=>exact trivial
    |cons o l=>cases l<;>exact hvw.elim
   |cons k K' ih=>
    intro O1 hk hvw
    have e:upd st.ob kL (some (.lrec (recOf fn ps assign body w.heap.size .ready none) (w.heap.size+1) frs)) k=st.ob k:=upd_other _ _ (hk k List.mem_cons_self)
    match O1,hvw with
    |[],_=>exact trivial
    |[o],hvw=>show ObIs1 (Option.map _ (upd st.ob kL _ k)) o;rw[e];exact hvw
    |o::o'::l,hvw=>exact⟨by rw[e];exact hvw.1,ih _ (fun j hj=>hk j (List.mem_cons_of_mem _ hj)) hvw.2⟩
  have hv2:=hvv (K.take O.length) O (fun k hk=>hkK k (List.mem_of_mem_take hk)) hv
  have hv3:ViewIs (upd st.ob kL (some (.lrec (recOf fn ps assign body w.heap.size .ready none) (w.heap.size+1) frs))) (posF ((kL::K).take (O.length+1))) (kL::K.take O.length) (.lrec (recOf fn ps assign body w.heap.size .ready none) (w.heap.size+1) (AV.mapL (renG (posF ((kL::K).take (O.length+1)))) frs)::O):=by
   have h1:ObIs1 ((upd st.ob kL (some (.lrec (recOf fn ps assign body w.heap.size .ready none) (w.heap.size+1) frs)) kL).map (Ob.map (renG (posF ((kL::K).take (O.length+1)))))) (.lrec (recOf fn ps assign body w.heap.size .ready none) (w.heap.size+1) (AV.mapL (renG (posF ((kL::K).take (O.length+1)))) frs)):=by
    rw[upd_same];exact⟨rfl,rfl,rfl⟩
   cases O with
   |nil=>exact h1
   |cons o O=>exact⟨h1,hv2⟩
  have hnew2:((kL::K).drop (O.length+1)).all (fun k=>(upd st.ob kL (some (.lrec (recOf fn ps assign body w.heap.size .ready none) (w.heap.size+1) frs)) k).isNone)=true:=by
   rw[List.all_eq_true] at hnew ⊢
   intro k hk
   have hk:k∈K.drop O.length:=hk
   rw[upd_other _ _ (hkK k (List.mem_of_mem_drop hk))]
   exact hnew k hk
  have hob2:∀cs0,backF (renG (fun i=>(kL::K)[i]?)) (kL::K) (.lrec (recOf fn ps assign body w.heap.size s pend) (w.heap.size+1) cs0::O')=some ((kL,.lrec (recOf fn ps assign body w.heap.size s pend) (w.heap.size+1) (AV.mapL (renG (fun i=>(kL::K)[i]?)) cs0))::obs):=by
   intro cs0
   have:frcKO kL (Ob.map (renG (fun i=>(kL::K)[i]?)) (.lrec (recOf fn ps assign body w.heap.size s pend) (w.heap.size+1) cs0))=some (kL,.lrec (recOf fn ps assign body w.heap.size s pend) (w.heap.size+1) (AV.mapL (renG (fun i=>(kL::K)[i]?)) cs0)):=by
    simp only[Ob.map,frcKO,frcO,frcL_self]
    cases kL<;>rfl
   simp only[backF,this,hob]
  refine SatR.calledX (C:=fun vs w R=>Calls E.P gf vs w R) (fun _ _ _ _ hc hr=>hc.mono hr) hS2 hS2 (fun _ _ h=>h) (hP (w.heap.size+1) w.heap.size fn).2 (K:=kL::K) (.inl rfl) hd (by simpa using hv3) (by simpa using hnew2) (hob2 _) ?_ ?_ (next:=fun _ _=>True) (Q':=fun _ _ _=>True) ?_
  ·simp;omega
  ·intro i y hy
   cases i with
   |zero=>
    simp only[List.getElem?_cons_zero,Option.some.injEq] at hy
    subst hy
    refine⟨.fn (.yield (w.heap.size+1)) [] [],?_,AvIs.refl _⟩
    have:(#[Value.func (.yield (w.heap.size+1)) #[] #[]]++cs).getD 0 undef=.func (.yield (w.heap.size+1)) #[] #[]:=by simp[Array.getElem?_append]
    rw[this]
    exact .fn rfl (fun i a h=>by simp at h) rfl (fun i a h=>by simp at h)
   |succ i=>
    simp only[List.getElem?_cons_succ] at hy
    have hlt:i<caps.length:=by
     have:=(List.getElem?_eq_some_iff.1 hy).1
     omega
    have hx:=List.getElem?_eq_getElem hlt
    refine⟨_,?_,hal.2 i _ y (mapL_at hx) hy⟩
    have hlt2:i<cs.size:=by omega
    have:=hcs.2 i _ hx
    simpa[Nat.add_comm 1 i,Array.getElem?_append,hlt2] using this
  ·intro v w' ρ' hm hle hG hr
   have h3:SatR E {st with ob:=putAll (upd st.ob kL (some (.lrec (recOf fn ps assign body w.heap.size .ready none) (w.heap.size+1) frs))) ((kL,.lrec (recOf fn ps assign body w.heap.size s pend) (w.heap.size+1) (AV.mapL (renG (fun i=>(kL::K)[i]?)) (AV.mapL (renG (posF ((kL::K).take (O.length+1)))) frs)))::obs)} {a with defers:=dMark w.heap.size::a.defers} w' ρ':=
    ⟨hm.keep,hS2.tsz,hS2.dfr.tr hG,hS2.gl.tr hG,fun k=>(hS2.fr k).tr hG _ hle,hm.ob,hm.no,hm.dis,hm.own,hm.le⟩
   obtain⟨arr,a1,-,-,a4⟩:=h3.recSet (k:=kL) (mk':=recOf fn ps assign body w.heap.size .exhausted pend) (upd_same _ _ _)
   have hend:=run_endLoop (P:=E.P) a1 hs
   refine⟨pend,_,hend,?_⟩
   have heq:∀o1 o2:Option Ob,upd (upd (putAll (upd st.ob kL o1) obs) kL o2) kL (some (.lrec (recOf fn ps assign body w.heap.size .exhausted pend) (w.heap.size+1) (AV.mapL (renG (fun i=>(kL::K)[i]?)) (AV.mapL (renG (posF ((kL::K).take (O.length+1)))) frs))))=
     upd (putAll st.ob obs) kL (some (.lrec (recOf fn ps assign body w.heap.size .exhausted pend) (w.heap.size+1) (AV.mapL (renG (fun i=>(kL::K)[i]?)) (AV.mapL (renG (posF ((kL::K).take (O.length+1)))) frs)))):=by
    intro o1 o2
    funext j
    by_cases hj:j=kL
    ·subst hj;rw[upd_same,upd_same]
    ·rw[upd_other _ _ hj,upd_other _ _ hj,upd_other _ _ hj]
     by_cases hm:j∈obs.map (·.1)
     ·exact putAll_mem hm
     ·rw[putAll_not hm,putAll_not hm,upd_other _ _ hj]
   have h4:=a4
   simp only[putAll] at h4
   rw[heq] at h4
   have h5:=hw _ _ _ _ _ _ ⟨ρ',h4⟩
   cases pend with
   |none=>exact⟨st',h5,h⟩
   |some c=>
    have h6:c.wpIn (FW E.rd) 0 E.P (Post E (XQ E k Q)) _ _:=h _ _ h5
    rw[hrd] at h6
    exact h6
end
end Go.Eng
end
