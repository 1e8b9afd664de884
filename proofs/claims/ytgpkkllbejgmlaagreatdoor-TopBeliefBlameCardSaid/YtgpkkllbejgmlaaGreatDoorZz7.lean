import Derived.Test.YtgpkkllbejgmlaaGreatDoorZz6
import Derived.LoopN
import Derived.Scope
set_option linter.unusedSimpArgs false
set_option linter.unusedVariables false
section
namespace Go.Eng
def Post (E:Env) (Q:Exit→ST→Prop):Exit→Act→World→Prop:=fun e a w=>∃st,Sat E st a w∧Q e st
section
variable {P:Program} {b:Frame} {a:Act} {k:List Item} {cs:List Frame} {w:World}
theorem stepR_scope {c:Code}:step P (lone (b.atR a (.code (.scope c)::k)) cs w)=.next (lone (b.atR a (.code c::.inScope c::k)) cs w):=step_lone_go (by simp[Go.stepG,Go.stepG.exec,Frame.atR])
theorem stepR_inScope {c:Code}:step P (lone (b.atR a (.inScope c::k)) cs w)=.next (lone (b.atR a k) cs w):=step_lone_go (by simp[Go.stepG,Go.stepG.exec,Frame.atR])
theorem wpIn_scope_straight {F:Fence} {n:Nat} {Q:Exit→Act→World→Prop} {c:Code} (h:c.wpIn F n P (Exit.noGoto Q) a w):(Code.scope c).wpIn F n P Q a w:=by
 intro b k cs hro hb hr
 have h0:(lone (b.atR a (.code (.scope c)::k)) cs w).fenced P F:=fenced_calm hb hr rfl
 obtain⟨e,a₁,w₁,hq,harr⟩:=h b (.inScope c::k) cs hro hb hr
 cases e with
 |normal=>exact⟨.normal,a₁,w₁,hq,.head h0 stepR_scope (StepsIn.trans harr (.one (fenced_calm hb hr rfl) stepR_inScope))⟩
 |exit id=>
  have hx:exitTo id (.inScope c::k)=exitTo id k:=by simp[exitTo]
  exact⟨.exit id,a₁,w₁,hq,fun k' hk=>.head h0 stepR_scope (harr.1 k' (by rw[hx];exact hk)),
   fun hr' hk=>let⟨k₁,h1,h2⟩:=harr.2 hr' (by rw[hx];exact hk);⟨k₁,h1,.head h0 stepR_scope h2⟩⟩
 |goto l=>exact hq.elim
 |ret=>exact⟨_,a₁,w₁,hq,.of_steps (.one h0 stepR_scope) harr⟩
 |panic ch=>exact⟨_,a₁,w₁,hq,.of_steps (.one h0 stepR_scope) harr⟩
 |outgrown=>exact⟨_,a₁,w₁,hq,.of_steps (.one h0 stepR_scope) harr⟩
end
def XC (E:Env) (c:Code) (Q:Exit→ST→Prop) (st:ST):Prop:=∀a w,Sat E st a w→c.wpIn (FW E.rd) 0 E.P (Post E Q) a w
inductive It where
 |code (c:Code)
 |blk (id:Nat)
 |inv (J:ST→Prop)
 |scp
def XQ (E:Env):List It→(Exit→ST→Prop)→Exit→ST→Prop
 |[],Q,e,st=>Q e st
 |.code c::k,Q,e,st=>match e with
  |.normal=>XC E c (XQ E k Q) st
  |e=>XQ E k Q e st
 |.blk id::k,Q,e,st=>match e with
  |.exit id'=>if id'=id then XQ E k Q .normal st else XQ E k Q (.exit id') st
  |e=>XQ E k Q e st
 |.inv J::k,Q,e,st=>match e with
  |.normal=>J st
  |e=>XQ E k Q e st
 |.scp::k,Q,e,st=>match e with
  |.goto _=>False
  |e=>XQ E k Q e st
def XK (E:Env) (k:List It) (Q:Exit→ST→Prop) (st:ST):Prop:=XQ E k Q .normal st
section
variable {E:Env} {Q:Exit→ST→Prop} {st:ST} {k:List It} {T:TE}
theorem XC.mono {c:Code} {Q':Exit→ST→Prop} (h:XC E c Q st) (hq:∀e st,Q e st→Q' e st):XC E c Q' st:=
 fun a w hs=>wpIn_mono (h a w hs) fun _ _ _ ⟨st,h1,h2⟩=>⟨st,h1,hq _ _ h2⟩
theorem XK.seq {a b:Code} (h:XK E (.code a::.code b::k) Q st):XK E (.code (.seq a b)::k) Q st:=by
 intro ac w hs
 refine wpIn_seq (wpIn_mono (h ac w hs) ?_)
 rintro e a' w' ⟨st',h1,h2⟩
 cases e with
 |normal=>exact h2 a' w' h1
 |_=>exact⟨st',h1,h2⟩
theorem XK.skip (h:XK E k Q st):XK E (.code .skip::k) Q st:=fun _ _ hs=>wpIn_skip ⟨st,hs,h⟩
theorem XK.block {id:Nat} {c:Code} (h:XK E (.code c::.blk id::k) Q st):XK E (.code (.block id c)::k) Q st:=by
 intro ac w hs
 refine wpIn_block (wpIn_mono (h ac w hs) ?_)
 rintro e a' w' ⟨st',h1,h2⟩
 cases e with
 |exit id'=>
  simp only[Exit.inBlock]
  simp only[XQ] at h2
  split
  ·rename_i hid
   rw[if_pos hid] at h2
   exact⟨st',h1,h2⟩
  ·rename_i hid
   rw[if_neg hid] at h2
   exact⟨st',h1,h2⟩
 |_=>exact⟨st',h1,h2⟩
theorem XK.scope {c:Code} (h:XK E (.code c::.scp::k) Q st):XK E (.code (.scope c)::k) Q st:=by
 intro ac w hs
 refine wpIn_scope_straight (wpIn_mono (h ac w hs) ?_)
 rintro e a' w' ⟨st',h1,h2⟩
 cases e with
 |goto l=>exact h2.elim
 |normal=>exact⟨st',h1,h2⟩
 |exit id=>exact⟨st',h1,h2⟩
 |ret=>exact⟨st',h1,h2⟩
 |panic ch=>exact⟨st',h1,h2⟩
 |outgrown=>exact⟨st',h1,h2⟩
theorem XK.popS (h:XK E k Q st):XK E (.scp::k) Q st:=h
theorem XK.label {l:Nat} (h:XK E k Q st):XK E (.code (.label l)::k) Q st:=fun _ _ hs=>wpIn_label ⟨st,hs,h⟩
theorem XK.pop {id:Nat} (h:XK E k Q st):XK E (.blk id::k) Q st:=h
theorem XK.inv {J:ST→Prop} (h:J st):XK E (.inv J::k) Q st:=h
def unw (id:Nat):List It→Option (List It)
 |[]=>none
 |.code _::k=>unw id k
 |.inv _::k=>unw id k
 |.scp::k=>unw id k
 |.blk id'::k=>bif Nat.beq id' id then some k else unw id k
theorem unw_ok {id:Nat}:∀{k k':List It},unw id k=some k'→XK E k' Q st→XQ E k Q (.exit id) st
 |[],k',h,_=>by cases h
 |.code _::k,k',h,hk=>unw_ok (k:=k) h hk
 |.inv _::k,k',h,hk=>unw_ok (k:=k) h hk
 |.scp::k,k',h,hk=>unw_ok (k:=k) h hk
 |.blk id'::k,k',h,hk=>by
  simp only[unw] at h
  cases hb:Nat.beq id' id with
  |true=>
   have:=Nat.eq_of_beq_eq_true hb
   subst this
   rw[hb,cond_true] at h
   injection h with h
   subst h
   simp only[XQ,if_true]
   exact hk
  |false=>
   rw[hb,cond_false] at h
   have hne:¬id=id':=fun e=>by subst e;simp at hb
   simpa[XQ,hne] using unw_ok (k:=k) h hk
theorem XK.exit {id:Nat} {k':List It} (hu:unw id k=some k') (h:XK E k' Q st):XK E (.code (.exit id)::k) Q st:=
 fun _ _ hs=>wpIn_exit ⟨st,hs,unw_ok hu h⟩
def nrmB:List It→Bool
 |.code c::_=>match c with
  |.seq _ _=>true
  |.skip=>true
  |.block _ _=>true
  |.scope _=>true
  |.label _=>true
  |.exit _=>true
  |_=>false
 |.blk _::_=>true
 |.scp::_=>true
 |_=>false
def nrm:Nat→List It→Option (List It)
 |0,_=>none
 |n+1,.code c::k=>match c with
  |.seq a b=>nrm n (.code a::.code b::k)
  |.skip=>nrm n k
  |.block id c=>nrm n (.code c::.blk id::k)
  |.scope c=>nrm n (.code c::.scp::k)
  |.label _=>nrm n k
  |.exit id=>match unw id k with
   |some k'=>nrm n k'
   |none=>none
  |c=>some (.code c::k)
 |n+1,.blk _::k=>nrm n k
 |n+1,.scp::k=>nrm n k
 |_+1,k=>some k
theorem nrm_ok:∀{n:Nat} {k k':List It},nrm n k=some k'→XK E k' Q st→XK E k Q st
 |0,k,k',h,_=>by cases h
 |n+1,[],k',h,hx=>by simp only[nrm,Option.some.injEq] at h;subst h;exact hx
 |n+1,.inv J::k,k',h,hx=>by simp only[nrm,Option.some.injEq] at h;subst h;exact hx
 |n+1,.blk id::k,k',h,hx=>XK.pop (nrm_ok (n:=n) (by simpa only[nrm] using h) hx)
 |n+1,.scp::k,k',h,hx=>XK.popS (nrm_ok (n:=n) (by simpa only[nrm] using h) hx)
 |n+1,.code c::k,k',h,hx=>by
  simp only[nrm] at h
  split at h
  ·exact XK.seq (nrm_ok h hx)
  ·exact XK.skip (nrm_ok h hx)
  ·exact XK.block (nrm_ok h hx)
  ·exact XK.scope (nrm_ok h hx)
  ·exact XK.label (nrm_ok h hx)
  ·split at h
   ·rename_i k2 hu
    exact XK.exit hu (nrm_ok h hx)
   ·cases h
  ·simp only[Option.some.injEq] at h;subst h;exact hx
theorem XK.norm {k':List It} (hb:nrmB k=true) (h:nrm 200 k=some k') (hx:XK E k' Q st):XK E k Q st:=nrm_ok h hx
theorem XQ.ret:∀{k:List It},Q .ret st→XQ E k Q .ret st
 |[],h=>h
 |.code _::k,h=>XQ.ret (k:=k) h
 |.inv _::k,h=>XQ.ret (k:=k) h
 |.scp::k,h=>XQ.ret (k:=k) h
 |.blk _::k,h=>XQ.ret (k:=k) h
theorem XK.ret (h:Q .ret st):XK E (.code .ret::k) Q st:=fun _ _ hs=>wpIn_ret ⟨st,hs,XQ.ret h⟩
theorem XK.nil (h:Q .normal st):XK E [] Q st:=h
theorem XK.cond {c:Operand} {x y:Code} {b:Bool} (hc:st.ev c=.c (.bool b)) (ht:b=true→XK E (.code x::k) Q st) (hf:b=false→XK E (.code y::k) Q st):XK E (.code (.cond c x y)::k) Q st:=by
 intro a w hs
 obtain⟨ρ,h⟩:=hs
 have hv:=h.ev c
 rw[hc] at hv
 exact wpIn_cond_split hv.c_inv (fun hb=>ht hb a w ⟨ρ,h⟩) (fun hb=>hf hb a w ⟨ρ,h⟩)
def Weak (E:Env) (st st':ST):Prop:=∀a w,Sat E st a w→Sat E st' a w
theorem Weak.trans {a b c:ST} (h:Weak E a b) (h':Weak E b c):Weak E a c:=fun _ _ hs=>h' _ _ (h _ _ hs)
theorem XQ.weak {st':ST} (hw:Weak E st st'):∀{c:Code},XK E (.code c::k) Q st'→XK E (.code c::k) Q st:=fun h a w hs=>h a w (hw a w hs)
theorem XK.loop {ι:Type} (I:ι→ST) (Inv:ι→Prop) (μ:ι→Nat) {body:Code} (i0:ι) (hi:Inv i0) (h0:Weak E st (I i0))
  (round:∀i,Inv i→XK E (.code body::.inv (fun st'=>∃j,Inv j∧Weak E st' (I j)∧μ j<μ i)::k) Q (I i)):XK E (.code (.loop body)::k) Q st:=by
 intro a w hs b kk cs hro hb hr
 have key:∀n i a w,μ i=n→Inv i→Sat E (I i) a w→
   ∃e a' w',Post E (XQ E k Q) e a' w'∧ArrivesIn (Machine.fenced E.P (FW E.rd)) E.P (lone (b.atR a (.code body::.inLoop body::kk)) cs w) b kk cs e a' w':=by
  intro n
  induction n using Nat.strongRecOn with
  |_ n ih=>
   intro i a w hn hI hsat
   obtain⟨e,a₁,w₁,⟨st',hs',hq⟩,harr⟩:=round i hI a w hsat b (.inLoop body::kk) cs hro hb hr
   cases e with
   |normal=>
    obtain⟨j,hj,hwk,hlt⟩:=hq
    obtain⟨e₂,a₂,w₂,hq₂,harr₂⟩:=ih (μ j) (hn▸hlt) j a₁ w₁ rfl hj (hwk _ _ hs')
    exact⟨e₂,a₂,w₂,hq₂,.of_steps (StepsIn.trans harr (.one (fenced_calm hb hr rfl) stepR_inLoop)) harr₂⟩
   |exit id=>exact⟨_,a₁,w₁,⟨st',hs',hq⟩,.pass (x:=.inLoop body) rfl (fun _ _=>.inl (by simp)) harr⟩
   |goto l=>exact⟨_,a₁,w₁,⟨st',hs',hq⟩,.pass (x:=.inLoop body) rfl (fun _ _=>.inl (by simp)) harr⟩
   |ret=>exact⟨_,a₁,w₁,⟨st',hs',hq⟩,.pass (x:=.inLoop body) rfl (fun _ _=>.inl (by simp)) harr⟩
   |panic ch=>exact⟨_,a₁,w₁,⟨st',hs',hq⟩,.pass (x:=.inLoop body) rfl (fun _ _=>.inl (by simp)) harr⟩
   |outgrown=>exact⟨_,a₁,w₁,⟨st',hs',hq⟩,.pass (x:=.inLoop body) rfl (fun _ _=>.inl (by simp)) harr⟩
 obtain⟨e,a',w',hq,harr⟩:=key _ i0 a w rfl hi (h0 _ _ hs)
 exact⟨e,a',w',hq,.of_steps (.one (fenced_calm hb hr rfl) stepR_loop) harr⟩
def ST.bump (st:ST):ST:={st with nx:=st.nx+st.nt}
theorem Sat.bump {a:Act} {w:World} (h:Sat E st a w):Sat E st.bump a w:=by
 obtain⟨ρ,h⟩:=h
 exact⟨ρ,h.keep,h.tsz,h.dfr,h.gl,h.fr,h.ob,h.no,h.dis,h.own,h.le⟩
def XL (E:Env) (ops:Array Oper) (Q:Exit→ST→Prop) (l:List Oper) (st:ST):Prop:=∀a w,Sat E st a w→wpListIn (FW E.rd) 0 E.P ops (Post E Q) l a w
theorem XL.nil {ops:Array Oper} (h:Q .normal st.bump):XL E ops Q [] st:=fun _ _ hs=>wpListIn_nil ⟨_,hs.bump,h⟩
theorem XK.region {id:Nat} {ops:Array Oper} (h:XL E ops (XQ E k Q) ops.toList st):XK E (.code (.region id ops false)::k) Q st:=fun a w hs=>wpIn_region_list (h a w hs)
theorem XL.step {ops:Array Oper} {o:Oper} {rest:List Oper} {st':ST} (hs:StepTo E ops o st st') (h:XL E ops Q rest st'):XL E ops Q (o::rest) st:=by
 intro a w hsat
 have h1:=hs a w hsat (Post E Q)
 refine wpListIn_step fun K hK=>?_
 split
 ·rename_i hw
  rw[if_pos hw] at h1
  exact Oper.wpIn_mono (fun a' w' hs'=>hK _ _ (h a' w' hs')) h1
 ·rename_i hw
  rw[if_neg hw] at h1
  exact⟨fun _ _=>trivial,hK _ _ (h _ _ h1)⟩
def frcO:Ob→Option Ob
 |.cells t cs=>match frcL cs with
  |some cs'=>some (.cells t cs')
  |none=>none
 |.vec e sz s n f=>some (.vec e sz s n f)
 |.mapo kk zv d f sn=>some (.mapo kk zv d f sn)
 |.mapb kk zv d f=>some (.mapb kk zv d f)
 |.lrec mk b cs=>some (.lrec mk b cs)
theorem frcO_eq {a b:Ob} (h:frcO a=some b):b=a:=by
 cases a with
 |cells t cs=>
  simp only[frcO] at h
  cases hl:frcL cs with
  |none=>simp[hl] at h
  |some l'=>simp[hl] at h;rw[←h,frcL_eq hl]
 |vec=>simp[frcO] at h;exact h.symm
 |mapo=>simp[frcO] at h;exact h.symm
 |mapb=>simp[frcO] at h;exact h.symm
 |lrec mk b cs=>simp[frcO] at h;exact h.symm
def frcKO (k:Nat) (o:Ob):Option (Nat×Ob):=match frcO o with
 |some o'=>(match k with
  |0=>some (0,o')
  |k'+1=>some (k'+1,o'))
 |none=>none
theorem frcKO_eq {k k':Nat} {o o':Ob} (h:frcKO k o=some (k',o')):k'=k∧o'=o:=by
 unfold frcKO at h
 split at h
 ·rename_i o2 ho
  cases k<;>simp only[Option.some.injEq,Prod.mk.injEq] at h<;>exact⟨h.1.symm,h.2▸frcO_eq ho⟩
 ·cases h
structure RunR where
 obl:List Prop
 fr:Nat→AV
 ob:Nat→Option Ob
 rest:List Oper
def runF (T:TE) (l:List Oper) (nx nt:Nat) (md:Nat→Bool):List Prop→(Nat→AV)→(Nat→Option Ob)→List Oper→RunR
 |acc,fr,ob,[]=>⟨acc,fr,ob,[]⟩
 |acc,fr,ob,o::rest=>match stepN T l fr ob nx nt md o with
  |some (obl,⟨av,eo⟩)=>match frc av,eo,o.dst with
   |some x,none,some d=>(match obl with
    |[]=>runF T l nx nt md acc (upd fr d x) ob rest
    |p::ps=>runF T l nx nt md (pushR (p::ps) acc) (upd fr d x) ob rest)
   |some x,some (k,o'),some d=>(match frcKO k o' with
    |some (k,o2)=>(match obl with
     |[]=>runF T l nx nt md acc (upd fr d x) (upd ob k (some o2)) rest
     |p::ps=>runF T l nx nt md (pushR (p::ps) acc) (upd fr d x) (upd ob k (some o2)) rest)
    |none=>⟨acc,fr,ob,o::rest⟩)
   |some _,some (k,o'),none=>(match frcKO k o' with
    |some (k,o2)=>(match obl with
     |[]=>runF T l nx nt md acc fr (upd ob k (some o2)) rest
     |p::ps=>runF T l nx nt md (pushR (p::ps) acc) fr (upd ob k (some o2)) rest)
    |none=>⟨acc,fr,ob,o::rest⟩)
   |_,_,_=>⟨acc,fr,ob,o::rest⟩
  |none=>⟨acc,fr,ob,o::rest⟩
theorem XL.run (hT:TOk E.P T) {ops:Array Oper} {nx nt:Nat} {md:Nat→Bool} (hd:ops.toList.all (dstOk ⟨st.fr,st.ob,nx,nt,md⟩)=true):∀{l:List Oper} {acc:List Prop} {fr fr':Nat→AV} {ob ob':Nat→Option Ob} {obl:List Prop} {rest:List Oper},(∀o∈l,o∈ops.toList)→runF T ops.toList nx nt md acc fr ob l=⟨obl,fr',ob',rest⟩→(∀p∈obl,p)→
  XL E ops Q rest ⟨fr',ob',nx,nt,md⟩→XL E ops Q l ⟨fr,ob,nx,nt,md⟩∧∀p∈acc,p
 |[],acc,fr,fr',ob,ob',obl,rest,_,hr,ho,h=>by
  simp only[runF,RunR.mk.injEq] at hr
  obtain⟨rfl,rfl,rfl,rfl⟩:=hr
  exact⟨h,ho⟩
 |o::l,acc,fr,fr',ob,ob',obl,rest,hmem,hr,ho,h=>by
  have dk:∀o'∈ops.toList,dstOk ⟨fr,ob,nx,nt,md⟩ o'=true:=fun o' ho'=>List.all_eq_true.1 hd o' ho'
  have stop:(⟨acc,fr,ob,o::l⟩:RunR)=⟨obl,fr',ob',rest⟩→XL E ops Q (o::l) ⟨fr,ob,nx,nt,md⟩∧∀p∈acc,p:=by
   intro hr
   simp only[RunR.mk.injEq] at hr
   obtain⟨rfl,rfl,rfl,rfl⟩:=hr
   exact⟨h,ho⟩
  have go:∀{ob1:List Prop} {eff:Eff} {fr1:Nat→AV} {obj1:Nat→Option Ob},stepF T ops.toList ⟨fr,ob,nx,nt,md⟩ o=some (ob1,eff)→(ST.app ⟨fr,ob,nx,nt,md⟩ o.dst eff)=⟨fr1,obj1,nx,nt,md⟩→
    (match ob1 with
     |[]=>runF T ops.toList nx nt md acc fr1 obj1 l
     |p::ps=>runF T ops.toList nx nt md (pushR (p::ps) acc) fr1 obj1 l)=⟨obl,fr',ob',rest⟩→XL E ops Q (o::l) ⟨fr,ob,nx,nt,md⟩∧∀p∈acc,p:=by
   intro ob1 eff fr1 obj1 hs he hr
   have fin:XL E ops Q l ⟨fr1,obj1,nx,nt,md⟩→(∀p∈ob1,p)→XL E ops Q (o::l) ⟨fr,ob,nx,nt,md⟩:=fun hx hp=>
    XL.step (stepF_ok hT hs hp (dk o (hmem o (by simp))) (fun j pol o' d _ hj hdst=>dstOk_lt (dk o' (Array.mem_toList_iff.2 (Array.mem_of_getElem? hj))) d hdst)) (he▸hx)
   cases ob1 with
   |nil=>
    obtain⟨h1,h2⟩:=XL.run hT hd (fun o' ho'=>hmem o' (by simp[ho'])) hr ho h
    exact⟨fin h1 (fun p hp=>by cases hp),h2⟩
   |cons q qs=>
    obtain⟨h1,h2⟩:=XL.run hT hd (fun o' ho'=>hmem o' (by simp[ho'])) hr ho h
    exact⟨fin h1 (fun p hp=>h2 p (mem_pushR.2 (.inl hp))),fun p hp=>h2 p (mem_pushR.2 (.inr hp))⟩
  simp only[runF,stepN_eq] at hr
  split at hr
  ·rename_i ob1 av eo hs
   split at hr
   ·rename_i x d hx hd1
    have:=frc_eq hx
    subst this
    exact go hs (by rw[hd1];rfl) hr
   ·rename_i x k o' d hx hd1
    have:=frc_eq hx
    subst this
    split at hr
    ·rename_i k2 o2 ho2
     obtain⟨h1,h2⟩:=frcKO_eq ho2
     subst h1 h2
     exact go hs (by rw[hd1];rfl) hr
    ·exact stop hr
   ·rename_i x k o' hx hd1
    split at hr
    ·rename_i k2 o2 ho2
     obtain⟨h1,h2⟩:=frcKO_eq ho2
     subst h1 h2
     exact go hs (by rw[hd1];rfl) hr
    ·exact stop hr
   ·exact stop hr
  ·exact stop hr
theorem XK.rgn (hT:TOk E.P T) {id:Nat} {ops:Array Oper} {fr fr':Nat→AV} {ob ob':Nat→Option Ob} {nx nt:Nat} {md:Nat→Bool} {obl obl':List Prop} (hd:ops.toList.all (dstOk ⟨fun _=>.junk,fun _=>none,nx,nt,md⟩)=true)
  (hr:runF T ops.toList nx nt md [] fr ob ops.toList=⟨obl,fr',ob',[]⟩) (hf:frcR obl []=some obl') (ho:AllP obl') (h:XK E k Q ⟨fr',ob',nx+nt,nt,md⟩):
  XK E (.code (.region id ops false)::k) Q ⟨fr,ob,nx,nt,md⟩:=
 XK.region (XL.run (st:=⟨fun _=>.junk,fun _=>none,nx,nt,md⟩) hT hd (fun _ h=>h) hr (AllP.memR hf ho) (XL.nil h)).1
theorem XL.go (hT:TOk E.P T) {ops:Array Oper} {l rest:List Oper} {fr fr':Nat→AV} {ob ob':Nat→Option Ob} {nx nt:Nat} {md:Nat→Bool} {obl obl':List Prop} (hd:ops.toList.all (dstOk ⟨fun _=>.junk,fun _=>none,nx,nt,md⟩)=true)
  (hm:ops.toList.drop (ops.toList.length-l.length)=l) (hr:runF T ops.toList nx nt md [] fr ob l=⟨obl,fr',ob',rest⟩) (hf:frcR obl []=some obl') (ho:AllP obl') (h:XL E ops Q rest ⟨fr',ob',nx,nt,md⟩):XL E ops Q l ⟨fr,ob,nx,nt,md⟩:=
 (XL.run (st:=⟨fun _=>.junk,fun _=>none,nx,nt,md⟩) hT hd (fun _ h=>List.mem_of_mem_drop (hm▸h)) hr (AllP.memR hf ho) h).1
def FnOk (P:Program) (f:FuncId):Prop:=∃fn,P.funcs[f]?=some fn∧fn.body.isSome=true∧(fn.name== "runtime.NumGoroutine")=false
def Does (P:Program) (f:FuncId) (args:List AV) (res:AV):Prop:=
 FnOk P f∧∀(w:World) (G:Nat→Prop) (vs:Array Value),vs.size=args.length→(∀b,G b→b<w.heap.size)→GlIn w G→(∀i x,args[i]?=some x→R w G Rho.none x (vs.getD i undef))→
  Calls P f vs w fun e w'=>∃v,e=.returned v∧Keep (fun _=>False) w w'∧R w' (fun b=>G b∨(w.heap.size≤b∧b<w'.heap.size)) Rho.none res v
mutual
def AV.lend (ob:Nat→Option Ob):AV→AV
 |.agg l=>.agg (AV.lendL ob l)
 |.tup l=>.tup (AV.lendL ob l)
 |.fn f l l'=>.fn f (AV.lendL ob l) (AV.lendL ob l')
 |.vec k s=>match ob k with
  |some (.vec _ sz s' n f)=>bif Nat.beq s s' then .rs sz n f else .junk
  |_=>.junk
 |.ptr k off=>match ob k with
  |some (.cells _ cs)=>bif AV.ksL (fun _=>false) cs then .rptr (cs.drop off) else .junk
  |_=>.junk
 |.vptr _ _ _ _ _=>.junk
 |.mp _=>.junk
 |.gd _ _=>.junk
 |.junk=>.junk
 |.c v=>.c v
 |.rptr l=>.rptr l
 |.rs sz n f=>.rs sz n f
def AV.lendL (ob:Nat→Option Ob):List AV→List AV
 |[]=>[]
 |a::l=>AV.lend ob a::AV.lendL ob l
end
theorem AV.lendL_get {ob:Nat→Option Ob}:∀{l:List AV} {i:Nat} {x:AV},(AV.lendL ob l)[i]?=some x→∃y,l[i]?=some y∧x=y.lend ob
 |[],i,x,h=>by simp[AV.lendL] at h
 |a::l,0,x,h=>by simp[AV.lendL] at h;exact⟨a,rfl,h.symm⟩
 |a::l,i+1,x,h=>by simp[AV.lendL] at h;simpa using AV.lendL_get h
theorem AV.lendL_length {ob:Nat→Option Ob}:∀{l:List AV},(AV.lendL ob l).length=l.length
 |[]=>rfl
 |a::l=>by simp[AV.lendL,AV.lendL_length (l:=l)]
theorem SatR.lend {a:Act} {w:World} {ρ:Rho} (h:SatR E st a w ρ) {x:AV} {v:Value} (hx:R w (E.good w ρ) ρ x v):R w (fun b=>b<w.heap.size) Rho.none (x.lend st.ob) v:=by
 have hG:∀b,E.good w ρ b→b<w.heap.size∧w.heap[b]?=w.heap[b]?:=fun b hb=>⟨hb.2.1,rfl⟩
 have key:∀{ρ':Rho} {x:AV} {v:Value},R w (E.good w ρ) ρ' x v→ρ'=ρ→R w (fun b=>b<w.heap.size) Rho.none (x.lend st.ob) v:=by
  intro ρ' x v hx
  induction hx with
  |junk=>exact fun _=>.junk
  |c=>exact fun _=>.c
  |agg hs _ ih=>
   intro e
   refine .agg (by rw[AV.lendL_length];exact hs) fun i x hi=>?_
   obtain⟨y,hy,rfl⟩:=AV.lendL_get hi
   exact ih i y hy e
  |tup hs _ ih=>
   intro e
   refine .tup (by rw[AV.lendL_length];exact hs) fun i x hi=>?_
   obtain⟨y,hy,rfl⟩:=AV.lendL_get hi
   exact ih i y hy e
  |@ptr ρ' k off g hk=>
   intro e
   subst e
   simp only[AV.lend]
   split
   ·rename_i t cs ho
    cases hb:AV.ksL (fun _=>false) cs with
    |false=>exact .junk
    |true=>
     rw[cond_true]
     have hc:=(h.objCells ho hk).drop off
     rw[Addr.add_lit,Nat.zero_add] at hc
     refine R.rptr_mk ?_ fun i y hy=>?_
     ·exact h.lt hk rfl
     ·obtain⟨u,hu,hr⟩:=hc i y hy
      have hks:y.ks (fun _=>false)=true:=by
       rw[List.getElem?_drop] at hy
       exact AV.ksL_at hb hy
      exact⟨u,hu,(hr.tr hG _ (Le.refl _)).free hks⟩
   ·exact .junk
  |mp=>exact fun _=>.junk
  |vptr=>exact fun _=>.junk
  |vptrOld=>exact fun _=>.junk
  |@vec ρ' k s hv hk=>
   intro e
   subst e
   simp only[AV.lend]
   split
   ·rename_i e sz s' n f ho
    cases hb:Nat.beq s s' with
    |false=>exact .junk
    |true=>
     rw[cond_true]
     obtain⟨A,cap,rfl,hm,hf,hc⟩:=src_ok (sz:=sz) (m:=n) (f:=f) h (x:=.vec k s) (by simp[srcF,ho,hb]) (.vec hk)
     obtain⟨_,_,_,_,xs,ho',hk',hown,_,_⟩:=h.live_vec (k:=k) (s:=s) (by simp[live,ho,hb]) (.vec hk)
     have hcap:n≤cap∧cap≤maxLen:=by
      rw[ho] at ho'
      injection ho' with ho'
      injection ho' with _ _ _ q4 _
      subst q4
      rcases hown.2 with⟨h1,h2⟩|⟨g,cap',cur,h1,_,_,h3,h4,_⟩
      ·injection h1 with _ q q'
       subst q'
       exact⟨by omega,Nat.zero_le _⟩
      ·injection h1 with _ _ q'
       subst q'
       exact⟨h3,h4⟩
     refine R.rs_mk hcap.1 hcap.2 hf fun h0=>?_
     obtain⟨ad,rfl,hcc⟩:=hc h0
     refine⟨ad,rfl,?_,fun i hi j y hy=>?_⟩
     ·exact h.lt hk' rfl
     ·obtain⟨u,hu,hr⟩:=hcc i hi j y hy
      exact⟨u,hu,hr.tr hG _ (Le.refl _)⟩
   ·exact .junk
  |vecOld hk hs=>
   intro e
   subst e
   simp only[AV.lend]
   split
   ·rename_i e sz s' n f ho
    cases hb:Nat.beq _ s' with
    |false=>exact .junk
    |true=>
     have:=Nat.eq_of_beq_eq_true hb
     subst this
     obtain⟨hv,_,hk',_⟩:=h.ob _ _ ho
     rw[hk] at hk'
     injection hk' with hk'
     injection hk' with hk' _
     omega
   ·exact .junk
  |rptr val hg hc hx _=>exact fun _=>(R.rptr val hg hc hx).tr hG _ (Le.none _)
  |rs val hn hm hc hl hx _=>exact fun _=>(R.rs val hn hm hc hl hx).tr hG _ (Le.none _)
  |fn hs _ hs' _ ih ih'=>
   intro e
   refine .fn (by rw[AV.lendL_length];exact hs) (fun i x hi=>?_) (by rw[AV.lendL_length];exact hs') (fun i x hi=>?_)
   ·obtain⟨y,hy,rfl⟩:=AV.lendL_get hi
    exact ih i y hy e
   ·obtain⟨y,hy,rfl⟩:=AV.lendL_get hi
    exact ih' i y hy e
  |gd=>exact fun _=>.junk
 exact key hx rfl
end
end Go.Eng
end
section
namespace Go.Eng
def callF (st:ST) (op:Op):Option (Nat×List AV):=
 match op with
 |.call c=>match c.callee with
  |.value f=>match strip (st.ev f) with
   |.fn (.func fid) first caps=>some (fid,first++c.args.toList.map (fun x=>strip (st.ev x))++caps)
   |_=>none
  |_=>none
 |_=>none
theorem getD_append_at {xs ys:Array Value} {l l':List AV} {w:World} {G:Nat→Prop} {ρ:Rho} (h1:xs.size=l.length) (h2:ys.size=l'.length) (hx:∀i x,l[i]?=some x→R w G ρ x (xs.getD i undef)) (hy:∀i x,l'[i]?=some x→R w G ρ x (ys.getD i undef)):
  (xs++ys).size=(l++l').length∧∀i x,(l++l')[i]?=some x→R w G ρ x ((xs++ys).getD i undef):=by
 refine⟨by simp[h1,h2],fun i x hi=>?_⟩
 by_cases hlt:i<l.length
 ·rw[List.getElem?_append_left hlt] at hi
  have:=hx i x hi
  have hlt':i<xs.size:=by omega
  simpa[Array.getElem?_append_left hlt'] using this
 ·rw[List.getElem?_append_right (by omega)] at hi
  have:=hy _ x hi
  have hge:xs.size≤i:=by omega
  rw[←h1] at this
  simpa[Array.getElem?_append_right hge] using this
section
variable {E:Env} {st:ST} {a:Act} {w:World} {ρ:Rho} {T:TE}
theorem call_run (h:SatR E st a w ρ) {o:Oper} {f:Nat} {args:List AV} (hc:callF st o.op=some (f,args)) {gc:Option Bool} (hgc:∀g,gc=some g→g=true) (ho:∀p∈o.op.operands.toList.flatMap (fun x=>oblG gc (st.ev x)),p)
  (hf:FnOk E.P f):∃vs:Array Value,(execOp a.eval o).run E.P w=.ok (.enter f vs) w∧vs.size=args.length∧∀i x,args[i]?=some x→R w (E.good w ρ) ρ x (vs.getD i undef):=by
 obtain⟨dst,op,type,pos,after,guard⟩:=o
 simp only at hc ho
 unfold callF at hc
 split at hc
 ·rename_i c
  obtain⟨callee,cargs,tys⟩:=c
  simp only at hc
  split at hc
  ·rename_i fo
   split at hc
   ·rename_i fid first caps hfn
    simp only[Option.some.injEq,Prod.mk.injEq] at hc
    obtain⟨rfl,rfl⟩:=hc
    have hst:∀x∈(Op.call {callee:=.value fo,args:=cargs,argTypes:=tys}).operands,R w (E.good w ρ) ρ (strip (st.ev x)) (a.eval x):=fun x hx=>
     strip_ok hgc (fun p hp=>ho p (List.mem_flatMap.2 ⟨x,by simpa using hx,hp⟩)) (h.ev x)
    have hfv:=hst fo (by simp[Op.operands,Call.operands])
    rw[hfn] at hfv
    generalize hev:a.eval fo=fv at hfv
    cases hfv with
    |@fn _ _ _ _ fs cs h1 h2 h3 h4=>
     obtain⟨fn,g1,g2,g3⟩:=hf
     have hargs:(cargs.map a.eval).size=(cargs.toList.map (fun x=>strip (st.ev x))).length∧∀i x,(cargs.toList.map (fun x=>strip (st.ev x)))[i]?=some x→R w (E.good w ρ) ρ x ((cargs.map a.eval).getD i undef):=by
      refine⟨by simp,fun i x hx=>?_⟩
      simp only[List.getElem?_map,Option.map_eq_some_iff] at hx
      obtain⟨u,hu,rfl⟩:=hx
      rw[getD_map cargs i u (by simpa using hu)]
      exact hst u (by simp[Op.operands,Call.operands];exact .inr (by simpa using List.mem_of_getElem? hu))
     obtain⟨q1,q2⟩:=getD_append_at h1 hargs.1 h2 hargs.2
     obtain⟨q3,q4⟩:=getD_append_at q1 h3 q2 h4
     refine⟨fs++cargs.map a.eval++cs,?_,q3,q4⟩
     have hbn:fn.body≠none:=fun e=>by rw[e] at g2;cases g2
     have hnm:fn.name≠ "runtime.NumGoroutine" :=by simpa using g3
     simp[execOp,resolve,hev,Deferred.ofValue,invoke,callFunc,g1,hnm,hbn]
   ·cases hc
  ·cases hc
 ·cases hc
def CallOk (st:ST) (args args':List AV) (res:AV):Prop:=
 (AV.lendL st.ob args=args'∧res.flat=true)∨(args=args'∧AV.ksL (fun _=>false) args=true)
theorem call_wp (h:SatR E st a w ρ) {o:Oper} {f:Nat} {args args':List AV} {res:AV} (hc:callF st o.op=some (f,args)) {gc:Option Bool} (hgc:∀g,gc=some g→g=true) (ho:∀p∈o.op.operands.toList.flatMap (fun x=>oblG gc (st.ev x)),p)
  (hP:Does E.P f args' res) (hok:CallOk st args args' res) {next:Act→World→Prop} {Q:Exit→Act→World→Prop}
  (hn:∀v w',SatR E st a w' ρ→R w' (E.good w' ρ) ρ res v→next (a.put o.dst v) w'):o.wpIn (FW E.rd) 0 E.P a w next Q:=by
 obtain⟨vs,h1,h2,h3⟩:=call_run h hc hgc ho hP.1
 refine wpIn_run h1 (fun _ e=>by cases e) ⟨(fun e=>by cases e),Calls.fw ?_ _ _⟩
 rcases hok with⟨rfl,hfl⟩|⟨rfl,hks⟩
 ·refine(hP.2 w (fun b=>b<w.heap.size) vs (by rw[AV.lendL_length];exact h2) (fun b hb=>hb) (h.gl.tr fun b hb=>⟨hb.2.1,rfl⟩) (fun i x hx=>?_)).mono ?_
  ·obtain⟨y,hy,rfl⟩:=AV.lendL_get hx
   exact h.lend (h3 i y hy)
  ·rintro e w' ⟨v,rfl,hk,hr⟩
   exact hn v w' (h.called hk) (hr.of_flat ρ hfl)
 ·refine(hP.2 w (E.good w ρ) vs h2 (fun b hb=>hb.2.1) h.gl (fun i x hx=>(h3 i x hx).free (AV.ksL_at hks hx))).mono ?_
  rintro e w' ⟨v,rfl,hk,hr⟩
  have hc':=h.called hk
  refine hn v w' hc' (hr.tr (fun b hb=>⟨?_,rfl⟩) _ (Le.none _))
  rcases hb with⟨q1,q2,q3⟩|⟨q1,q2⟩
  ·exact⟨q1,Nat.lt_of_lt_of_le q2 hk.size,q3⟩
  ·exact⟨.inr (.inl (Nat.le_trans h.keep.size q1)),q2,fun k x hx hb=>absurd (h.lt hx hb) (by omega)⟩
theorem StepTo.call {ops:Array Oper} {o:Oper} {f:Nat} {args args':List AV} {res:AV} (hc:callF st o.op=some (f,args)) (hg:o.guard=none) (hd:dstOk st o=true) (ho:AllP (o.op.operands.toList.flatMap (fun x=>oblG none (st.ev x))))
  (hP:Does E.P f args' res) (hok:CallOk st args args' res):StepTo E ops o st (st.app o.dst ⟨res,none⟩):=by
 intro a w ⟨ρ,h⟩ Q
 rw[if_pos (by simp[Region.wanted,hg])]
 exact call_wp h hc (fun g e=>by cases e) (AllP.mem ho) hP hok fun v w' h' hr=>⟨ρ,SatR.put_app (eff:=⟨res,none⟩) (dst:=o.dst) h' (dstOk_lt hd) hr⟩
theorem StepTo.callG {ops:Array Oper} {o:Oper} {j f:Nat} {pol g:Bool} {args args':List AV} {res:AV} (hc:callF st o.op=some (f,args)) (hg:o.guard=some (j,pol)) (hgv:gval st ops.toList j pol=some g) (hd:dstOk st o=true)
  (hda:ops.toList.all (dstOk st)=true) (ho:AllP (o.op.operands.toList.flatMap (fun x=>oblG (some g) (st.ev x)))) (hP:g=true→Does E.P f args' res) (hok:CallOk st args args' res):StepTo E ops o st (st.app o.dst ⟨.gd g res,none⟩):=by
 intro a w ⟨ρ,h⟩ Q
 have hwv:Region.wanted o (yielded ops a.tmps)=g:=by
  have:=gval_ok h hgv (fun o' d h1 h2=>dstOk_lt (List.all_eq_true.1 hda o' (Array.mem_toList_iff.2 (Array.mem_of_getElem? h1))) d h2)
  simp only[Region.wanted,hg,this]
 cases hgb:g with
 |false=>
  subst hgb
  rw[if_neg (by rw[hwv];simp)]
  exact⟨ρ,SatR.put_app (eff:=⟨.gd false res,none⟩) (dst:=o.dst) h (dstOk_lt hd) (.gd (fun e=>by cases e) fun _=>rfl)⟩
 |true=>
  subst hgb
  rw[if_pos hwv]
  exact call_wp h hc (fun g e=>by injection e with e;exact e.symm) (AllP.mem ho) (hP rfl) hok fun v w' h' hr=>⟨ρ,SatR.put_app (eff:=⟨.gd true res,none⟩) (dst:=o.dst) h' (dstOk_lt hd) (.gd (fun _=>hr) fun e=>by cases e)⟩
theorem XL.call {Q:Exit→ST→Prop} {ops:Array Oper} {o:Oper} {rest:List Oper} {f:Nat} {args args':List AV} {res:AV} (hc:callF st o.op=some (f,args)) (hg:o.guard=none) (hd:dstOk st o=true) (ho:AllP (o.op.operands.toList.flatMap (fun x=>oblG none (st.ev x))))
  (hP:Does E.P f args' res) (hok:CallOk st args args' res) (h:XL E ops Q rest (st.app o.dst ⟨res,none⟩)):XL E ops Q (o::rest) st:=XL.step (StepTo.call hc hg hd ho hP hok) h
theorem XL.callG {Q:Exit→ST→Prop} {ops:Array Oper} {o:Oper} {rest:List Oper} {j f:Nat} {pol g:Bool} {args args':List AV} {res:AV} (hc:callF st o.op=some (f,args)) (hg:o.guard=some (j,pol)) (hgv:gval st ops.toList j pol=some g) (hd:dstOk st o=true)
  (hda:ops.toList.all (dstOk st)=true) (ho:AllP (o.op.operands.toList.flatMap (fun x=>oblG (some g) (st.ev x)))) (hP:g=true→Does E.P f args' res) (hok:CallOk st args args' res) (h:XL E ops Q rest (st.app o.dst ⟨.gd g res,none⟩)):XL E ops Q (o::rest) st:=
 XL.step (StepTo.callG hc hg hgv hd hda ho hP hok) h
end
def AvIs0:AV→AV→Prop
 |.rs sz n f,.rs sz' n' f'=>sz=sz'∧n=n'∧∀i,i<n→f' i=f i
 |.c v,.rs _ n _=>v=.slice none 0 0∧n=0
 |x,y=>x=y
def AvIs0L:List AV→List AV→Prop
 |[],[]=>True
 |[x],[y]=>AvIs0 x y
 |x::l,y::l'=>AvIs0 x y∧AvIs0L l l'
 |_,_=>False
def AvIs:AV→AV→Prop
 |.tup l,.tup l'=>AvIs0L l l'
 |x,y=>AvIs0 x y
theorem AvIs0.refl (x:AV):AvIs0 x x:=by cases x<;>simp[AvIs0]
theorem AvIs0L.refl:∀(l:List AV),AvIs0L l l
 |[]=>trivial
 |[x]=>AvIs0.refl x
 |x::y::l=>⟨AvIs0.refl x,AvIs0L.refl (y::l)⟩
theorem AvIs.refl (x:AV):AvIs x x:=by
 cases x
 case tup l=>exact AvIs0L.refl l
 all_goals simp[AvIs,AvIs0]
theorem AvIs0.ok {w:World} {G:Nat→Prop} {ρ:Rho} {x y:AV} {v:Value} (h:AvIs0 x y) (hr:R w G ρ x v):R w G ρ y v:=by
 unfold AvIs0 at h
 split at h
 ·obtain⟨rfl,rfl,hf⟩:=h
  cases hr with
  |rs val hn hm hc hl h=>exact .rs val hn hm hc (fun i hi=>by rw[hf i hi];exact hl i hi) fun i j x hi hx=>h i j x hi (by rw[←hf i hi];exact hx)
 ·obtain⟨rfl,rfl⟩:=h
  rw[hr.c_inv]
  exact .rs (fun _ _=>undef) (Nat.le_refl _) (Nat.zero_le _) (fun h=>absurd h (by simp)) (fun i hi=>absurd hi (by simp)) (fun i j x hi=>absurd hi (by simp))
 ·subst h;exact hr
theorem AvIs0L.at_:∀{l l':List AV},AvIs0L l l'→l.length=l'.length∧∀(i:Nat) (x y:AV),l[i]?=some x→l'[i]?=some y→AvIs0 x y
 |[],[],_=>⟨rfl,fun i x y h=>by simp at h⟩
 |[x],[y],h=>⟨rfl,fun i x' y' h1 h2=>by
  match i with
  |0=>simp at h1 h2;subst h1 h2;exact h
  |i+1=>simp at h1⟩
 |x::x2::l,y::y2::l',h=>by
  obtain⟨h1,h2⟩:=AvIs0L.at_ (l:=x2::l) (l':=y2::l') h.2
  refine⟨by simpa using h1,fun i x' y' g1 g2=>?_⟩
  match i with
  |0=>simp at g1 g2;subst g1 g2;exact h.1
  |i+1=>exact h2 i x' y' (by simpa using g1) (by simpa using g2)
 |[x],y::y2::l',h=>False.elim h.2
 |x::x2::l,[y],h=>by
  have:=h.2
  cases l<;>simp[AvIs0L] at this
theorem AvIs.ok {w:World} {G:Nat→Prop} {ρ:Rho} {x y:AV} {v:Value} (h:AvIs x y) (hr:R w G ρ x v):R w G ρ y v:=by
 unfold AvIs at h
 split at h
 ·rename_i l l'
  obtain⟨hl,hat⟩:=h.at_
  obtain⟨cs,rfl,hs,hc⟩:=hr.tup_inv
  refine .tup (by omega) fun i b hb=>?_
  have hlt:i<l.length:=by
   have:=(List.getElem?_eq_some_iff.1 hb).1
   omega
  have hx:=List.getElem?_eq_getElem hlt
  exact(hat i _ b hx hb).ok (hc i _ hx)
 ·exact AvIs0.ok h hr
section
variable {E:Env} {st:ST} {a:Act} {w:World} {ρ:Rho} {T:TE}
def retF1 (T:TE) (st:ST):ResultVar→Option AV
 |.tmp t=>some (st.fr t)
 |.cell x t=>match loadF T st.ob t (st.fr x) with
  |some (_,r)=>some r
  |none=>none
def retFs (T:TE) (st:ST):List ResultVar→Option (List AV)
 |[]=>some []
 |r::l=>match retF1 T st r,retFs T st l with
  |some x,some xs=>some (x::xs)
  |_,_=>none
def retF (T:TE) (st:ST) (l:List ResultVar):Option AV:=match retFs T st l with
 |some [x]=>some x
 |some xs=>some (.tup xs)
 |none=>none
def resSem (tmps:Array Value):ResultVar→Sem Value
 |.tmp t=>pure (tmps.getD t undef)
 |.cell a t=>do loadVar t (←asAddr (tmps.getD a undef))
theorem results_eq (fn:Func) (tmps:Array Value):results fn tmps=(do let vs ←fn.results.mapM (resSem tmps);pure (if h:vs.size=1 then vs[0] else .tuple vs)):=by
 unfold results resSem
 rfl
theorem retF1_ok (hT:TOk E.P T) (h:SatR E st a w ρ) {r:ResultVar} {x:AV} (hr:retF1 T st r=some x):∃v,(resSem a.tmps r).run E.P w=.ok v w∧R w (E.good w ρ) ρ x v:=by
 cases r with
 |tmp t=>
  simp only[retF1,Option.some.injEq] at hr
  subst hr
  exact⟨_,rfl,h.fr t⟩
 |cell c t=>
  simp only[retF1] at hr
  split at hr
  ·rename_i obl r' hl
   injection hr with hr
   subst hr
   obtain⟨z,h1,h2⟩:=loadF_ok hT h hl (h.fr c)
   refine⟨z,?_,h2⟩
   have hp:∃ad,a.tmps.getD c undef=.pointer (some ad):=by
    cases hv:a.tmps.getD c undef with
    |pointer p=>
     cases p with
     |some ad=>exact⟨ad,rfl⟩
     |none=>rw[hv] at h1;simp[Instr.loadAt,Instr.sureAddr] at h1
    |_=>rw[hv] at h1;simp[Instr.loadAt,Instr.sureAddr] at h1
   obtain⟨ad,hp⟩:=hp
   rw[hp] at h1
   simp only[resSem,hp,asAddr]
   simpa[Instr.loadAt,Instr.sureAddr] using h1
  ·cases hr
theorem retFs_ok (hT:TOk E.P T) (h:SatR E st a w ρ):∀{l:List ResultVar} {xs:List AV},retFs T st l=some xs→∃vs:List Value,(l.mapM (resSem a.tmps)).run E.P w=.ok vs w∧vs.length=xs.length∧∀(i:Nat) (x:AV),xs[i]?=some x→R w (E.good w ρ) ρ x (vs.getD i undef)
 |[],xs,hr=>by
  simp only[retFs,Option.some.injEq] at hr
  subst hr
  exact⟨[],rfl,rfl,fun i x hx=>by simp at hx⟩
 |r::l,xs,hr=>by
  simp only[retFs] at hr
  split at hr
  ·rename_i x xs' h1 h2
   injection hr with hr
   subst hr
   obtain⟨v,g1,g2⟩:=retF1_ok hT h h1
   obtain⟨vs,g3,g4,g5⟩:=retFs_ok hT h h2
   refine⟨v::vs,by simp[List.mapM_cons,g1,g3],by simp[g4],fun i y hy=>?_⟩
   cases i with
   |zero=>simp at hy;subst hy;exact g2
   |succ i=>simpa using g5 i y (by simpa using hy)
  ·cases hr
theorem retF_ok (hT:TOk E.P T) (h:SatR E st a w ρ) {fn:Func} {x:AV} (hr:retF T st fn.results.toList=some x):∃v,(results fn a.tmps).run E.P w=.ok v w∧R w (E.good w ρ) ρ x v:=by
 unfold retF at hr
 rw[results_eq]
 have hm:∀{vs:List Value},(fn.results.toList.mapM (resSem a.tmps)).run E.P w=.ok vs w→(fn.results.mapM (resSem a.tmps)).run E.P w=.ok vs.toArray w:=by
  intro vs hvs
  rw[Array.mapM_eq_mapM_toList]
  simp[hvs]
 split at hr
 ·rename_i y hy
  injection hr with hr
  subst hr
  obtain⟨vs,g1,g2,g3⟩:=retFs_ok hT h hy
  match vs,g2 with
  |[v],_=>exact⟨v,by rw[Sem.run_bind,hm g1];rfl,g3 0 y rfl⟩
 ·rename_i xs hne hy
  injection hr with hr
  subst hr
  obtain⟨vs,g1,g2,g3⟩:=retFs_ok hT h hy
  have hl:vs.length≠1:=fun e=>by
   rw[g2] at e
   match xs,e with
   |[y],_=>exact hne y rfl
  refine⟨.tuple vs.toArray,?_,.tup (by simpa using g2) fun i x hx=>by simpa using g3 i x hx⟩
  rw[Sem.run_bind,hm g1]
  simp[hl]
 ·cases hr
def RetQ (T:TE) (rs:List ResultVar) (res:AV):Exit→ST→Prop:=fun e st=>(e=.normal∨e=.ret)∧∃x,retF T st rs=some x∧x.ks (fun _=>false)=true∧AvIs x res
theorem RetQ.ret {rs:List ResultVar} {res x:AV} (h:retF T st rs=some x) (hk:x.ks (fun _=>false)=true) (he:x=res):RetQ T rs res .ret st:=⟨.inr rfl,x,h,hk,he▸AvIs.refl x⟩
theorem RetQ.normal {rs:List ResultVar} {res x:AV} (h:retF T st rs=some x) (hk:x.ks (fun _=>false)=true) (he:x=res):RetQ T rs res .normal st:=⟨.inl rfl,x,h,hk,he▸AvIs.refl x⟩
def argFr:List AV→Nat→AV
 |[],_=>.junk
 |x::_,0=>x
 |_::l,k+1=>argFr l k
theorem argFr_eq:∀(args:List AV) (k:Nat),argFr args k=(args[k]?).getD .junk
 |[],k=>by simp[argFr]
 |x::l,0=>by simp[argFr]
 |x::l,k+1=>by simp[argFr,argFr_eq l k]
theorem Does.mk {P:Program} {f:FuncId} {fn:Func} {c:Code} {args:List AV} {res:AV} {T:TE} (md:Nat→Bool) (hT:TOk P T) (hf:P.funcs[f]?=some fn) (hb:fn.body=some c) (hnm:(fn.name== "runtime.NumGoroutine")=false)
  {nt:Nat} {rs:List ResultVar} (hnt:fn.ntmps=nt) (hrs:fn.results.toList=rs) (hle:Nat.ble args.length nt=true)
  (h:∀E:Env,TOk E.P T→E.P=P→E.N=0→E.rd=none→XK E [.code c] (RetQ T rs res) ⟨argFr args,fun _=>none,0,nt,md⟩):Does P f args res:=by
 subst hnt hrs
 refine⟨⟨fn,hf,by rw[hb];rfl,hnm⟩,fun w G vs hs hG hgl hr=>?_⟩
 let E:Env:=⟨P,w,fun _=>False,G,0,Rho.none,none⟩
 have hgood:∀b,G b→E.good w Rho.none b:=fun b hb=>⟨.inl hb,hG b hb,(fun k x hx=>by cases hx)⟩
 have hle':=Nat.le_of_ble_eq_true hle
 have hsz:(vs++Array.replicate (fn.ntmps-vs.size) undef).size=fn.ntmps:=by simp;omega
 have h0:SatR E ⟨argFr args,fun _=>none,0,fn.ntmps,md⟩ {tmps:=vs++Array.replicate (fn.ntmps-vs.size) undef,defers:=[]} w Rho.none:=by
  refine⟨Keep.refl _ _,hsz,DfrOk.nil,hgl.tr (fun b hb=>⟨hgood b hb,rfl⟩),fun k=>?_,(fun k o ho=>by cases ho),fun k _=>rfl,(fun k k' x x' b hk=>by cases hk),(fun k x b hk=>by cases hk),(fun k hk=>by cases hk)⟩
  by_cases hk:k<args.length
  ·have hx:=List.getElem?_eq_getElem hk
   have h1:=(hr k _ hx).tr (G':=E.good w Rho.none) (fun b hb=>⟨hgood b hb,rfl⟩) _ (Le.refl _)
   have hlt:k<vs.size:=by omega
   simp only[argFr_eq,hx,Option.getD_some]
   simpa[Array.getElem?_append_left hlt] using h1
  ·simp only[argFr_eq,List.getElem?_eq_none (Nat.le_of_not_lt hk),Option.getD_none]
   exact .junk
 refine(callsIn_wide (n:=0)).1 (callsIn_of_wp_marks hf hb trivial (wpIn_mono (h E hT rfl rfl rfl _ w ⟨_,h0⟩) ?_))
 rintro e a' w1 ⟨st',⟨ρ,hs1⟩,he,x,hx,hk,hxr⟩
 suffices hlv:LeavesInM Fence.wide 0 P fn a'.tmps (fun e w'=>∃v,e=.returned v∧Keep (fun _=>False) w w'∧R w' (fun b=>G b∨(w.heap.size≤b∧b<w'.heap.size)) Rho.none res v) a'.defers .returning w1 by
  rcases he with rfl|rfl<;>exact hlv
 obtain⟨df,hdf,-⟩:=hs1.dfr
 obtain⟨ta,da⟩:=a'
 simp only at hdf
 subst hdf
 refine SatR.leaves df hs1 fun w' hs'=>?_
 obtain⟨v,h1,h2⟩:=retF_ok (E:=E) hT hs' hx
 have key:∃v,(results fn ta).run P w'=.ok v w'∧∃u,Ending.returned v=.returned u∧Keep (fun _=>False) w w'∧R w' (fun b=>G b∨(w.heap.size≤b∧b<w'.heap.size)) Rho.none res u:=
  ⟨v,h1,v,rfl,hs'.keep,(hxr.ok (h2.free hk)).tr (fun b hb=>⟨by
   rcases hb with⟨q1|q1|q1,q2,_⟩
   ·exact .inl q1
   ·exact .inr ⟨q1,q2⟩
   ·exact q1.elim,rfl⟩) _ (Le.refl _)⟩
 exact key
end
def mkFr:List (Nat×AV)→Nat→AV
 |[],_=>.junk
 |(j,x)::l,k=>bif Nat.beq j k then x else mkFr l k
def mkOb:List (Nat×Ob)→Nat→Option Ob
 |[],_=>none
 |(j,x)::l,k=>bif Nat.beq j k then some x else mkOb l k
def ST.of (L:List (Nat×AV)) (O:List (Nat×Ob)) (nx nt:Nat) (md:Nat→Bool):ST:={fr:=mkFr L,ob:=mkOb O,nx:=nx,nt:=nt,md:=md}
def Ob.ks (p:Nat→Bool):Ob→Bool
 |.cells _ cs=>AV.ksL p cs
 |.vec _ _ _ _ _=>true
 |.mapo _ _ _ _ _=>false
 |.mapb _ _ _ _=>true
 |.lrec _ _ cs=>AV.ksL p cs
def keptAll (L:List (Nat×AV)) (O:List (Nat×Ob)):Bool:=
 L.all (fun x=>x.2.ks (fun k=>(mkOb O k).isSome))&&O.all (fun o=>o.2.ks (fun k=>(mkOb O k).isSome))
def FrIs (st:ST):List (Nat×AV)→Prop
 |[]=>True
 |[(k,x)]=>AvIs (st.fr k) x
 |(k,x)::l=>AvIs (st.fr k) x∧FrIs st l
def ObIs1:Option Ob→Ob→Prop
 |some (.cells t cs),.cells t' cs'=>t=t'∧cs=cs'
 |some (.vec e sz s n f),.vec e' sz' s' n' f'=>(e=e'∧sz=sz'∧s=s')∧n=n'∧∀i,i<n→f' i=f i
 |some (.mapo kk zv d f sn),.mapo kk' zv' d' f' sn'=>(kk=kk'∧sn=sn')∧zv=zv'∧∀z,d' z=d z∧f' z=f z
 |some (.mapb kk zv d f),.mapb kk' zv' d' f'=>kk=kk'∧zv=zv'∧∀z,kk.has z=true→d' z=d z∧AvIs (f z) (f' z)
 |some (.lrec mk b cs),.lrec mk' b' cs'=>mk=mk'∧b=b'∧cs=cs'
 |_,_=>False
theorem KK.has_of {kk:KK} {v:Value} (h:kk.has v=true):kk.has v=true:=h
theorem ObIs1.ok {w:World} {G:Nat→Prop} {ρ:Rho} {k:Nat} {o o':Ob} (h:ObIs1 (some o) o') (ho:ObOk w G ρ k o):ObOk w G ρ k o':=by
 cases o with
 |cells t cs=>
  cases o' with
  |cells t' cs'=>
   obtain⟨rfl,rfl⟩:=h
   exact ho
  |vec=>exact h.elim
  |mapo=>exact h.elim
  |mapb=>exact h.elim
  |lrec=>exact h.elim
 |vec e sz s n f=>
  cases o' with
  |cells=>exact h.elim
  |mapo=>exact h.elim
  |mapb=>exact h.elim
  |lrec=>exact h.elim
  |vec e' sz' s' n' f'=>
   obtain⟨⟨rfl,rfl,rfl⟩,rfl,hf⟩:=h
   obtain⟨hv,xs,h1,h2,h3,h4⟩:=ho
   exact⟨hv,xs,h1,h2,fun i hi=>by rw[hf i hi];exact h3 i hi,fun i j x hi hx=>h4 i j x hi (by rw[←hf i hi];exact hx)⟩
 |mapo kk zv d f sn=>
  cases o' with
  |cells=>exact h.elim
  |vec=>exact h.elim
  |mapb=>exact h.elim
  |lrec=>exact h.elim
  |mapo kk' zv' d' f' sn'=>
   obtain⟨⟨rfl,rfl⟩,rfl,hf⟩:=h
   obtain⟨g,es,clock,h1,h2,h3,h4,h5⟩:=ho
   exact⟨g,es,clock,h1,h2,h3,(fun z hz=>by rw[(hf z).1,(hf z).2];exact h4 z hz),h5⟩
 |mapb kk zv d f=>
  cases o' with
  |cells=>exact h.elim
  |vec=>exact h.elim
  |mapo=>exact h.elim
  |lrec=>exact h.elim
  |mapb kk' zv' d' f'=>
   obtain⟨rfl,rfl,hf⟩:=h
   obtain⟨g,es,clock,h1,h2,h3,h4⟩:=ho
   refine⟨g,es,clock,h1,h2,h3,fun z hz=>?_⟩
   obtain⟨r,g1,g2,g3⟩:=h4 z hz
   obtain⟨q1,q2⟩:=hf z (KK.has_of hz)
   exact⟨r,g1,by rw[q1];exact g2,q2.ok g3⟩
 |lrec mk b cs=>
  cases o' with
  |cells=>exact h.elim
  |vec=>exact h.elim
  |mapo=>exact h.elim
  |mapb=>exact h.elim
  |lrec mk' b' cs'=>
   obtain⟨rfl,rfl,rfl⟩:=h
   exact ho
def ObIs (st:ST):List (Nat×Ob)→Prop
 |[]=>True
 |[(k,o)]=>ObIs1 (st.ob k) o
 |(k,o)::l=>ObIs1 (st.ob k) o∧ObIs st l
theorem FrIs.cons {st:ST} {k:Nat} {x:AV} {l:List (Nat×AV)} (h:FrIs st ((k,x)::l)):AvIs (st.fr k) x∧FrIs st l:=by
 cases l with
 |nil=>exact⟨h,trivial⟩
 |cons y l=>exact h
theorem ObIs.cons {st:ST} {k:Nat} {x:Ob} {l:List (Nat×Ob)} (h:ObIs st ((k,x)::l)):ObIs1 (st.ob k) x∧ObIs st l:=by
 cases l with
 |nil=>exact⟨h,trivial⟩
 |cons y l=>exact h
theorem mkFr_or {st:ST}:∀{L:List (Nat×AV)},FrIs st L→∀k,mkFr L k=.junk∨(AvIs (st.fr k) (mkFr L k)∧∃x∈L,x.2=mkFr L k)
 |[],_,k=>.inl rfl
 |(j,x)::l,h,k=>by
  obtain⟨h1,h2⟩:=h.cons
  simp only[mkFr]
  cases hb:Nat.beq j k with
  |true=>
   have:=Nat.eq_of_beq_eq_true hb
   subst this
   exact .inr ⟨by rw[cond_true];exact h1,(j,x),by simp,by rw[cond_true]⟩
  |false=>
   rw[cond_false]
   rcases mkFr_or h2 k with h3|⟨h3,y,h4,h5⟩
   ·exact .inl h3
   ·exact .inr ⟨h3,y,by simp[h4],h5⟩
theorem mkOb_some {st:ST}:∀{O:List (Nat×Ob)},ObIs st O→∀k o,mkOb O k=some o→ObIs1 (st.ob k) o∧(k,o)∈O
 |[],_,k,o,h=>by cases h
 |(j,x)::l,h,k,o,ho=>by
  simp only[mkOb] at ho
  cases hb:Nat.beq j k with
  |true=>
   have:=Nat.eq_of_beq_eq_true hb
   subst this
   rw[hb,cond_true] at ho
   injection ho with ho
   subst ho
   exact⟨h.cons.1,by simp⟩
  |false=>
   rw[hb,cond_false] at ho
   obtain⟨h1,h2⟩:=mkOb_some h.cons.2 k o ho
   exact⟨h1,by simp[h2]⟩
theorem SatR.weakFr {E:Env} {st:ST} {a:Act} {w:World} {ρ:Rho} (h:SatR E st a w ρ) {fr':Nat→AV} (hf:∀k,fr' k=.junk∨AvIs (st.fr k) (fr' k)):SatR E {st with fr:=fr'} a w ρ:=
 ⟨h.keep,h.tsz,h.dfr,h.gl,fun k=>by
  show R w (E.good w ρ) ρ (fr' k) _
  rcases hf k with h1|h1
  ·rw[h1];exact .junk
  ·exact h1.ok (h.fr k),h.ob,h.no,h.dis,h.own,h.le⟩
def allKept (n:Nat) (O:List (Nat×Ob)):Bool:=(List.range n).all (fun k=>(mkOb O k).isSome)
theorem SatR.of {E:Env} {st:ST} {L:List (Nat×AV)} {O:List (Nat×Ob)} {nx nt:Nat} {md:Nat→Bool} (hnt:nt=st.nt) (hk:keptAll L O=true) (hn:allKept E.N O=true) (hL:FrIs st L) (hO:ObIs st O) {a:Act} {w:World} {ρ:Rho} (h:SatR E st a w ρ):
  SatR E (ST.of L O nx nt md) a w (fun k=>if(mkOb O k).isSome then ρ k else none):=by
 simp only[keptAll,Bool.and_eq_true,List.all_eq_true] at hk
 simp only[allKept,List.all_eq_true,List.mem_range] at hn
 have h1:=h.weakFr (fr':=mkFr L) fun k=>by
  rcases mkFr_or hL k with h1|⟨h1,_⟩
  ·exact .inl h1
  ·exact .inr h1
 refine h1.cut (st':=ST.of L O nx nt md) (fun k=>(mkOb O k).isSome) hnt (fun k=>?_) (fun k o ho=>?_) (fun k hn=>?_) (fun k o ho=>?_) hn
 ·rcases mkFr_or hL k with h1|⟨h1,x,hx,h2⟩
  ·exact .inl h1
  ·exact .inr ⟨rfl,(by show AV.ks _ (mkFr L k)=true;rw[←h2];exact hk.1 x hx)⟩
 ·have ho':mkOb O k=some o:=ho
  simp[ho']
 ·have hn':mkOb O k=none:=hn
  simp[hn']
 ·have ho':mkOb O k=some o:=ho
  obtain⟨h1,h2⟩:=mkOb_some hO k o ho'
  have h3:=hk.2 _ h2
  show(∃t cs,_∧st.ob k=some o∧_)∨(∃e sz s n f f',_∧st.ob k=_∧_)∨∃o1,st.ob k=some o1∧_∧(_∨_)
  cases hst:st.ob k with
  |none=>rw[hst] at h1;exact h1.elim
  |some o1=>
   rw[hst] at h1
   cases o1 with
   |cells t cs=>
    cases o with
    |cells t' cs'=>
     obtain⟨rfl,rfl⟩:=h1
     exact .inl ⟨t,cs,rfl,rfl,h3⟩
    |vec=>exact h1.elim
    |mapo=>exact h1.elim
    |mapb=>exact h1.elim
    |lrec=>exact h1.elim
   |vec e sz s n f=>
    cases o with
    |cells=>exact h1.elim
    |mapo=>exact h1.elim
    |mapb=>exact h1.elim
    |lrec=>exact h1.elim
    |vec e' sz' s' n' f'=>
     obtain⟨⟨rfl,rfl,rfl⟩,rfl,hf⟩:=h1
     exact .inr (.inl ⟨e,sz,s,n,f,f',rfl,rfl,hf⟩)
   |mapo=>
    cases o with
    |mapo=>simp[Ob.ks] at h3
    |mapb=>exact h1.elim
    |lrec=>exact h1.elim
    |cells=>exact h1.elim
    |vec=>exact h1.elim
   |mapb kk zv d f=>
    cases o with
    |mapo=>exact h1.elim
    |cells=>exact h1.elim
    |vec=>exact h1.elim
    |lrec=>exact h1.elim
    |mapb kk' zv' d' f'=>
     exact .inr (.inr ⟨_,rfl,fun w G ρ ho=>ObIs1.ok h1 ho,.inl ⟨_,_,_,_,rfl⟩⟩)
   |lrec mk b cs=>
    cases o with
    |cells=>exact h1.elim
    |vec=>exact h1.elim
    |mapo=>exact h1.elim
    |mapb=>exact h1.elim
    |lrec mk' b' cs'=>
     obtain⟨rfl,rfl,rfl⟩:=h1
     exact .inr (.inr ⟨_,rfl,fun _ _ _ ho=>ho,.inr ⟨mk,b,cs,rfl,rfl,h3⟩⟩)
theorem Weak.of {E:Env} {st:ST} {L:List (Nat×AV)} {O:List (Nat×Ob)} {nx nt n:Nat} {md:Nat→Bool} (hN:E.N=n) (hnt:nt=st.nt) (hk:keptAll L O=true) (hn:allKept n O=true) (hL:FrIs st L) (hO:ObIs st O):Weak E st (ST.of L O nx nt md):=by
 subst hN
 intro a w ⟨ρ,h⟩
 exact⟨_,h.of hnt hk hn hL hO⟩
end Go.Eng
end
section
namespace Go.Eng
structure LeafOk (P:Program) (t:Nat) (ks:List TK):Prop where
 grd:P.eqGuardType P.depth t=false
 eq:∀xs ys b w,cellsEq ks xs ys=some b→(Op.equal t (.agg xs.toArray) (.agg ys.toArray)).run P w=.ok b w
 key:∀e (xs:List Value) w,xs.length=ks.length→(Instr.checkKey e 10000 t (.agg xs.toArray)).run P w=.ok () w
theorem KindOk.other_of {P:Program} {t:Nat}
  (h:(match P.underlying t with
   |none=>false
   |some (.struct _)=>false
   |some (.array _ _)=>false
   |some _=>true)=true):KindOk P t .other:=by
 split at h
 ·cases h
 ·cases h
 ·cases h
 ·rename_i d h1 h2 hu
  refine⟨d,hu,?_⟩
  split
  ·exact h1 _ rfl
  ·exact h2 _ _ rfl
  ·trivial
def kindGot (P:Program) (t:Nat):TK→Option TK
 |.struct _ _=>match P.underlying t with
  |some (.struct fs)=>(fs.toList.mapM (fun f=>(P.info? f.type).map fun i=>(f.offset,i.size))).map fun pl=>.struct pl (fs.toList.map (·.type))
  |_=>none
 |.other=>match P.underlying t with
  |none=>none
  |some (.struct _)=>none
  |some (.array _ _)=>none
  |some _=>some .other
 |_=>match P.underlying t with
  |some (.int k)=>some (.int k)
  |some .bool=>some .bool
  |some .string=>some .string
  |some (.slice e)=>some (.slice e)
  |some (.array n e)=>some (.array n e)
  |some (.map k e)=>some (.map k e)
  |_=>none
theorem KindOk.of_got {P:Program} {t:Nat} {k:TK} (h:kindGot P t k=some k):KindOk P t k:=by
 cases k with
 |struct pl ty=>
  simp only[kindGot] at h
  split at h
  ·rename_i fs hu
   simp only[Option.map_eq_some_iff,TK.struct.injEq] at h
   obtain⟨a,h1,h2,h3⟩:=h
   exact⟨fs,hu,h2▸h1,h3⟩
  ·cases h
 |other=>exact KindOk.other_of (by simp only[kindGot] at h;split at h<;>simp_all)
 |_=>simp only[kindGot] at h;split at h<;>first|(cases h;assumption)|cases h
theorem map_at {α β:Type} {f g:α→β}:∀{l:List α},l.map f=l.map g→∀x∈l,f x=g x
 |a::l,h,x,hx=>by
  simp only[List.map_cons,List.cons.injEq] at h
  rcases List.mem_cons.1 hx with rfl|hx
  ·exact h.1
  ·exact map_at h.2 x hx
theorem TE.find_mem:∀{T:TE} {t:Nat} {ti:TI},T.find t=some ti→(t,ti)∈T
 |(k,tj)::l,t,ti,h=>by
  simp only[TE.find] at h
  cases hb:Nat.beq k t with
  |true=>rw[hb] at h;injection h with h;subst h;rw[Nat.eq_of_beq_eq_true hb];exact List.mem_cons_self
  |false=>rw[hb] at h;exact List.mem_cons_of_mem _ (TE.find_mem h)
theorem TOk.all {P:Program} {T:TE} (hi:T.map (fun x=>(P.info? x.1).map fun i=>(i.size,i.bytes,i.zero))=T.map fun x=>some (x.2.size,x.2.bytes,some x.2.zv))
  (hz:T.map (fun x=>x.2.zv.cells)=T.map fun x=>x.2.zero.toArray) (hk:T.map (fun x=>kindGot P x.1 x.2.kind)=T.map fun x=>some x.2.kind) (hl:T.map (fun x=>x.2.leaf)=T.map fun _=>none):TOk P T:=by
 intro t ti h
 have hm:=TE.find_mem h
 have h1:=map_at hi _ hm
 have h2:=map_at hz _ hm
 have h3:=map_at hk _ hm
 have h4:=map_at hl _ hm
 dsimp only at h1 h2 h3 h4
 cases hq:P.info? t with
 |none=>rw[hq] at h1;cases h1
 |some i=>
  rw[hq] at h1
  simp only[Option.map_some,Option.some.injEq,Prod.mk.injEq] at h1
  exact⟨⟨i,_,hq,h1.1,h1.2.1,h1.2.2,h2⟩,⟨i,hq,h1.2.2⟩,KindOk.of_got h3,(fun ks e=>by rw[h4] at e;cases e),(fun ks e=>by rw[h4] at e;cases e)⟩
theorem TOk.leaf {P:Program} {B T:TE} (hB:TOk P B) (hT:TOk P T) {t:Nat} {ti:TI} {ks:List TK} (h:B.find t=some ti) (hl:LeafOk P t ks):TOk P ((t,{ti with leaf:=some ks})::T):=
 TOk.cons ⟨(hB t ti h).info,(hB t ti h).zvEq,(hB t ti h).kind,fun _ e=>by injection e with e;exact e▸⟨hl.grd,hl.eq⟩,fun _ e=>by injection e with e;exact e▸hl.key⟩ hT
end Go.Eng
end
