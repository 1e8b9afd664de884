import Derived.Test.YtgpkkllbejgmlaaGreatDoorZz12
import Derived.KernelRfl
import Derived.Test.YtgpkkllbejgmlaaGreatDoorZz11
import Derived.ProofKit
import Derived.OpenShut
import Derived.ChangeOld
import Derived.Below
set_option linter.unusedSimpArgs false
set_option linter.unusedVariables false
section
namespace Go.Eng
section
variable {E:Env} {st:ST}
end
section
variable {E:Env} {Q:Exit→ST→Prop} {ops:Array Oper} {o:Oper} {rest:List Oper} {l d:Nat} {args args1 args':List AV} {res res1:AV} {O O':List Ob} {K:List Nat} {obs:List (Nat×Ob)} {fr:Nat→AV} {ob:Nat→Option Ob} {nx nt:Nat} {md:Nat→Bool} {P:Program} {k:List It} {tr0:List (EffM×(List Nat×List Nat))}
end
def frL (n:Nat) (L:List (Nat×AV)):List AV:=(List.range n).map (mkFr L)
theorem frL_length (n:Nat) (L:List (Nat×AV)):(frL n L).length=n:=by simp[frL]
theorem frL_is {st:ST} {n:Nat} {L:List (Nat×AV)} (h:FrIs st L):∀(i:Nat) (x:AV),(frL n L)[i]?=some x→x=.junk∨AvIs (st.fr i) x:=by
 intro i x hx
 simp only[frL,List.getElem?_map,Option.map_eq_some_iff] at hx
 obtain⟨j,hj,rfl⟩:=hx
 have:j=i:=by
  have:=List.getElem?_eq_some_iff.1 hj
  obtain⟨h1,h2⟩:=this
  simpa using h2.symm
 subst this
 rcases mkFr_or h j with h0|⟨h1,_⟩
 ·exact .inl h0
 ·exact .inr h1
theorem Weak.ghostC {E:Env} {st:ST} {c k t e sz:Nat} {f:Nat→List AV} (hc:st.ob c=some (.cells t [.c (.slice none 0 0)])) (hk:st.ob k=none) (hck:Nat.beq c k=false):
  Weak E st {st with ob:=upd (upd st.ob k (some (.vec e sz 0 0 f))) c (some (.cells t [.vec k 0]))}:=by
 have hck:c≠k:=fun h=>by subst h;simp at hck
 intro a w ⟨ρ,h⟩
 have hn:=h.no k hk
 have hu:∀i x b,upd ρ k (some (.hdr 0 (.slice none 0 0))) i=some x→x.block=some b→ρ i=some x:=by
  intro i x b hi hb
  by_cases hik:i=k
  ·subst hik;rw[upd_same] at hi;injection hi with hi;subst hi;cases hb
  ·rwa[upd_other _ _ hik] at hi
 have hl:Le ρ (upd ρ k (some (.hdr 0 (.slice none 0 0)))):=by
  intro i x hi
  by_cases hik:i=k
  ·subst hik;rw[hn] at hi;cases hi
  ·rw[upd_other _ _ hik];exact .inl hi
 have hG:∀b,E.good w ρ b→E.good w (upd ρ k (some (.hdr 0 (.slice none 0 0)))) b∧w.heap[b]?=w.heap[b]?:=fun b ⟨h0,hlt,hno⟩=>⟨⟨h0,hlt,fun i y hi hy=>hno i y (hu i y b hi hy) hy⟩,rfl⟩
 refine⟨upd ρ k (some (.hdr 0 (.slice none 0 0))),h.keep,h.tsz,h.dfr.tr hG,h.gl.tr hG,fun i=>(h.fr i).tr hG _ hl,fun i o hi=>?_,fun i hi=>?_,fun i i' y y' b hi hi' hy hy'=>h.dis i i' y y' b (hu i y b hi hy) (hu i' y' b hi' hy') hy hy',fun i y b hi hy=>h.own i y b (hu i y b hi hy) hy,fun i hi x hx=>?_⟩
 ·by_cases hic:i=c
  ·subst hic
   simp only[upd_same] at hi
   injection hi with hi
   subst hi
   obtain⟨g,arr,h1,h2,h3,h4⟩:=h.ob i _ hc
   refine⟨g,arr,(upd_other _ _ hck).trans h1,h2,h3,fun j x hj=>?_⟩
   have hj0:j=0:=by
    have:=(List.getElem?_eq_some_iff.1 hj).1
    simp at this
    exact this
   subst hj0
   simp only[List.getElem?_cons_zero,Option.some.injEq] at hj
   subst hj
   have:=(h4 0 _ rfl).c_inv
   rw[this]
   exact .vec (upd_same _ _ _)
  ·simp only[upd_other _ _ hic] at hi
   by_cases hik:i=k
   ·subst hik
    simp only[upd_same] at hi
    injection hi with hi
    subst hi
    exact⟨.slice none 0 0,[],upd_same _ _ _,⟨by simp,.inl ⟨rfl,rfl⟩⟩,(fun i hi=>absurd hi (by omega)),fun i j x hi=>absurd hi (by omega)⟩
   ·simp only[upd_other _ _ hik] at hi
    exact(h.ob i o hi).tr hG hl (upd_other _ _ hik) fun _ _ _ _=>rfl
 ·by_cases hic:i=c
  ·subst hic;simp only[upd_same] at hi;cases hi
  ·simp only[upd_other _ _ hic] at hi
   by_cases hik:i=k
   ·subst hik;rw[upd_same] at hi;cases hi
   ·rw[upd_other _ _ hik] at hi ⊢;exact h.no i hi
 ·rcases h.le i hi x hx with h1|⟨s,v,s',v',h1,h2,h3⟩
  ·exact hl i x h1
  ·rcases hl i _ h2 with h4|⟨s1,v1,s2,v2,h4,h5,h6⟩
   ·exact .inr ⟨s,v,s',v',h1,h4,h3⟩
   ·injection h4 with h4 h7
    exact .inr ⟨s,v,s2,v2,h1,h5,by omega⟩
def RndT (E:Env) (L:Nat) (fn:FuncId) (ps:Array Tmp) (assign body:Code) (D:Nat) (cs:List AV) (O':List Ob) (bb:Bool) (mk':Array Value→Obj):Exit→ST→Prop:=fun e s=>
 ∃out,RndQ E L fn ps assign body D cs O' out e s∧out.isNone=bb∧recOf fn ps assign body D (if out.isNone then .ready else .done) out=mk'
theorem DoesR.mkT {P:Program} {T:TE} (hT:TOk P T) {L:Nat} {fn:FuncId} {ps:Array Tmp} {assign body:Code} {D:Nat} {cs args:List AV} {O O':List Ob} {bb:Bool} {mk':Array Value→Obj} (md:Nat→Bool) (nx:Nat) (st1:ST)
  (hps:ps.size=args.length) (hlt:∀t∈ps,t<cs.length) (hO:O.length≤O'.length)
  (h1:∀E:Env,TOk E.P T→E.P=P→E.N=O.length+1→E.rd=some L→XK E [.code assign] (fun e s=>e=.normal∧Weak E s st1) ⟨frPut (ps.toList.zip args) (argFr cs),obL (.lrec (recOf fn ps assign body D .ready none) L cs::O),nx,cs.length,md⟩)
  (hst1:st1.ob 0=some (.lrec (recOf fn ps assign body D .ready none) L cs))
  (h2:∀E:Env,TOk E.P T→E.P=P→E.N=O.length+1→E.rd=some L→XK E [.code body] (RndT E L fn ps assign body D cs O' bb mk') {st1 with ob:=upd st1.ob 0 (some (.lrec (recOf fn ps assign body D .busy none) L cs))}):
  DoesR P L args (.lrec (recOf fn ps assign body D .ready none) L cs::O) (.c (.bool bb)) (.lrec mk' L cs::O'):=by
 refine⟨by simpa using hO,fun w G r vs hs hG hgl hm hr=>?_⟩
 obtain⟨arr,hr0,hh,hsz,hcs⟩:=hm.ob 0 _ rfl
 have hy:=run_yield (P:=P) (args:=vs) hh (by show vs.size=ps.size;omega)
 refine⟨fn,_,assign,body,hy,?_⟩
 let E:Env:={Env.at_ P w G (.lrec (recOf fn ps assign body D .ready none) L cs::O).length r with rd:=some L}
 have hzip:(ps.toList.zip args).map (·.1)=ps.toList:=by
  rw[List.map_fst_zip]
  simp;omega
 have hfp:=frPut_ok (w:=w) (G:=(Env.at_ P w G (.lrec (recOf fn ps assign body D .ready none) L cs::O).length r).good w r) (ρ:=r) (ps.toList.zip args) vs.toList (argFr cs) arr (by simp;omega)
  (fun p hp=>by rw[hsz];exact hlt p.1 (by have:=(List.of_mem_zip hp).1;simpa using this)) (fun k=>by
   by_cases hk:k<cs.length
   ·have hx:=List.getElem?_eq_getElem hk
    simp only[argFr_eq,hx,Option.getD_some]
    exact hcs k _ hx
   ·simp only[argFr_eq,List.getElem?_eq_none (Nat.le_of_not_lt hk),Option.getD_none]
    exact .junk) (fun i p hp=>by
   have hi:=List.getElem?_zip_eq_some.1 hp
   have:=hr i p.2 hi.2
   simpa using this)
 rw[hzip] at hfp
 have htm:(ps.zip vs).foldl (fun tmps (p:Tmp×Value)=>tmps.setIfInBounds p.1 p.2) arr=(ps.toList.zip vs.toList).foldl (fun t (p:Tmp×Value)=>t.setIfInBounds p.1 p.2) arr:=by
  rw[←Array.foldl_toList,Array.toList_zip]
 have hN:E.N=O.length+1:=by simp[E,Env.at_]
 have h0:SatR E ⟨frPut (ps.toList.zip args) (argFr cs),obL (.lrec (recOf fn ps assign body D .ready none) L cs::O),nx,cs.length,md⟩ {tmps:=(ps.zip vs).foldl (fun tmps (p:Tmp×Value)=>tmps.setIfInBounds p.1 p.2) arr,defers:=[]} w r:=by
  refine⟨Keep.refl _ _,?_,DfrOk.nil,hgl.tr (fun b hb=>⟨hG b hb,rfl⟩),fun k=>?_,hm.ob,hm.no,hm.dis,hm.own,hm.le⟩
  ·show Array.size _=cs.length
   rw[htm,hfp.1,hsz]
  ·show R w _ r _ (Array.getD _ k undef)
   rw[htm]
   exact hfp.2 k
 refine roundIn_of_wpIn (F:=FW none) trivial (wpIn_mono (h1 E hT rfl hN rfl _ w ⟨r,h0⟩) ?_)
 rintro e a1 w1 ⟨s1,hs1,he⟩
 obtain⟨rfl,hwk⟩:=(show e=.normal∧Weak E s1 st1 from he)
 obtain⟨ρ1,hρ1⟩:=hwk a1 w1 hs1
 obtain⟨arr1,hh1,_,_,hset⟩:=hρ1.recSet (mk':=recOf fn ps assign body D .busy none) hst1
 refine⟨_,run_beginRound hh1 rfl,wpIn_mono (h2 E hT rfl hN rfl _ _ ⟨ρ1,hset⟩) ?_⟩
 rintro e a2 w2 ⟨s2,hs2,he⟩
 obtain⟨out,⟨hee,st',hwk2,hob⟩,rfl,rfl⟩:=(show RndT E L fn ps assign body D cs O' bb mk' e s2 from he)
 obtain⟨ρ2,hρ2⟩:=hwk2 a2 w2 hs2
 obtain⟨arr2,hh2,_,_,hset2⟩:=hρ2.recSet (k:=0) (mk':=recOf fn ps assign body D (if out.isNone then .ready else .done) out) (by rw[hob];rfl)
 have hmem:=hset2.mem
 rw[show({st' with ob:=upd st'.ob 0 (some (.lrec (recOf fn ps assign body D (if out.isNone then .ready else .done) out) L cs))}:ST).ob=obL (.lrec (recOf fn ps assign body D (if out.isNone then .ready else .done) out) L cs::O') by show upd st'.ob 0 _=_;rw[hob,obL_upd]] at hmem
 have hend:=run_endRound (P:=P) out hh2
 have key:∃v w',(Instr.endRound L out).run P w2=.ok v w'∧∃v' ρ,Ending.returned v=.returned v'∧MemR (Env.at_ P w G (.lrec (recOf fn ps assign body D .ready none) L cs::O).length r) (obL (.lrec (recOf fn ps assign body D (if out.isNone then .ready else .done) out) L cs::O')) w' ρ∧
   R w' ((Env.at_ P w G (.lrec (recOf fn ps assign body D .ready none) L cs::O).length r).good w' ρ) ρ (.c (.bool out.isNone)) v':=
  ⟨_,_,hend,_,ρ2,rfl,⟨hmem.keep,hmem.ob,hmem.no,hmem.dis,hmem.own,hmem.le⟩,.c⟩
 rcases hee with⟨rfl,rfl⟩|⟨rfl,rfl⟩|⟨id,rfl,rfl⟩<;>exact key
theorem Weak.names {E:Env} {fr:Nat→AV} {ob:Nat→Option Ob} {nx nt n:Nat} {md:Nat→Bool} {O1 O':List Ob} (L:List Nat) (hN:E.N=n) (hd:nodupB L=true) (hn:(List.range n).all (fun i=>match L[i]? with
  |some k=>Nat.beq k i
  |none=>false)=true) (hO:obsF ob (renG (posF L)) L=some O1) (hOO:ObAll O1 O'):Weak E ⟨fr,ob,nx,nt,md⟩ ⟨fun j=>(fr j).map (renG (posF L)),obL O',nx,nt,md⟩:=by
 refine Weak.trans (Weak.ren L hN hd hn) ?_
 have hob:(ST.ren ⟨fr,ob,nx,nt,md⟩ L).ob=obL O1:=funext fun i=>(obsF_ok hO i).symm
 obtain⟨hl,hat⟩:=hOO.at_
 intro a w ⟨ρ,h⟩
 refine⟨ρ,h.keep,h.tsz,h.dfr,h.gl,h.fr,fun k o ho=>?_,fun k ho=>?_,h.dis,h.own,h.le⟩
 ·have hlt:k<O1.length:=by
   have:=(List.getElem?_eq_some_iff.1 ho).1
   omega
  have h1:O1[k]?=some O1[k]:=List.getElem?_eq_getElem hlt
  exact ObIs1.ok (hat k _ o h1 ho) (h.ob k _ (by rw[hob];exact h1))
 ·refine h.no k ?_
  rw[hob]
  have ho:O'[k]?=none:=ho
  show O1[k]?=none
  simp at ho ⊢
  omega
section
variable {E:Env} {L:Nat} {fn:FuncId} {ps:Array Tmp} {assign body:Code} {D:Nat} {cs:List AV} {O1 O':List Ob} {bb:Bool} {mk':Array Value→Obj} {fr:Nat→AV} {ob:Nat→Option Ob} {nx nt n:Nat} {md:Nat→Bool} {k:List It}
theorem XK.outY (K:List Nat) (hN:E.N=n) (hd:nodupB K=true) (hn:(List.range n).all (fun i=>match K[i]? with
  |some k=>Nat.beq k i
  |none=>false)=true) (hO:obsF ob (renG (posF K)) K=some O1) (hOO:ObAll O1 (.lrec (recOf fn ps assign body D .busy none) L cs::O')) (hb:false=bb) (hmk:recOf fn ps assign body D .done (some .ret)=mk'):
  XK E (.code .ret::k) (RndT E L fn ps assign body D cs O' bb mk') ⟨fr,ob,nx,nt,md⟩:=
 XK.ret ⟨some .ret,⟨.inr (.inl ⟨rfl,rfl⟩),_,Weak.names K hN hd hn hO hOO,rfl⟩,hb,hmk⟩
theorem XK.outYN (K:List Nat) (hN:E.N=n) (hd:nodupB K=true) (hn:(List.range n).all (fun i=>match K[i]? with
  |some k=>Nat.beq k i
  |none=>false)=true) (hO:obsF ob (renG (posF K)) K=some O1) (hOO:ObAll O1 (.lrec (recOf fn ps assign body D .busy none) L cs::O')) (hb:true=bb) (hmk:recOf fn ps assign body D .ready none=mk'):
  XK E [] (RndT E L fn ps assign body D cs O' bb mk') ⟨fr,ob,nx,nt,md⟩:=
 XK.nil ⟨none,⟨.inl ⟨rfl,rfl⟩,_,Weak.names K hN hd hn hO hOO,rfl⟩,hb,hmk⟩
theorem XK.nilY {st st':ST} (hw:Weak E st st') (h:XK E [] (RndT E L fn ps assign body D cs O' bb mk') st'):XK E [] (RndT E L fn ps assign body D cs O' bb mk') st:=by
 obtain⟨out,⟨h1,st2,h2,h3⟩,h4,h5⟩:=(show RndT E L fn ps assign body D cs O' bb mk' .normal st' from h)
 exact⟨out,⟨h1,st2,Weak.trans hw h2,h3⟩,h4,h5⟩
end
def giveG (k q s T:Nat):AV→AV
 |.vec j s'=>bif Nat.beq j k then .junk else(bif Nat.beq j q then(bif Nat.beq s' s then .vec k T else .junk) else .vec j s')
 |.vptr j s' sz i off=>bif Nat.beq j k then .junk else(bif Nat.beq j q then(bif Nat.beq s' s then .vptr k T sz i off else .junk) else .vptr j s' sz i off)
 |x=>x
def ST.give (st:ST) (k q s T:Nat) (o:Ob):ST:={st with fr:=fun j=>(st.fr j).map (giveG k q s T),ob:=upd (upd (fun j=>(st.ob j).map (Ob.map (giveG k q s T))) q none) k (some o)}
theorem Weak.give {E:Env} {st:ST} {k q e sz s n m e0 sz0 s0 n0:Nat} {f f0:Nat→List AV} (T:Nat) (hN:E.N=m) (hk:st.ob k=some (.vec e0 sz0 s0 n0 f0)) (hq:st.ob q=some (.vec e sz s n f)) (hqm:Nat.ble m q=true) (hkq:Nat.beq k q=false) (hT:s0<T):
  Weak E st (st.give k q s T (.vec e sz T n f)):=by
 rintro a w ⟨ρ,h⟩
 have hkq:k≠q:=fun e=>by subst e;simp at hkq
 obtain⟨hv,xs,hg,hown,hf,hr⟩:=h.ob q _ hq
 obtain⟨hv0,xs0,hg0,-,-,-⟩:=h.ob k _ hk
 let ρ':Rho:=upd (upd ρ q none) k (some (.hdr T hv))
 have e1:ρ' k=some (.hdr T hv):=upd_same _ _ _
 have e2:ρ' q=none:=by simp only[ρ'];rw[upd_other _ _ (Ne.symm hkq),upd_same]
 have e3:∀j,j≠k→j≠q→ρ' j=ρ j:=fun j h1 h2=>by simp only[ρ'];rw[upd_other _ _ h1,upd_other _ _ h2]
 have hcase:∀j x b,ρ' j=some x→x.block=some b→(j=k∧ρ q=some (.hdr s hv)∧(RV.hdr s hv).block=some b)∨(j≠k∧j≠q∧ρ j=some x):=by
  intro j x b hj hb
  by_cases h1:j=k
  ·subst h1;rw[e1] at hj;injection hj with hj;subst hj;exact .inl ⟨rfl,hg,hb⟩
  ·by_cases h2:j=q
   ·subst h2;rw[e2] at hj;cases hj
   ·rw[e3 j h1 h2] at hj;exact .inr ⟨h1,h2,hj⟩
 have hG:∀b,E.good w ρ b→E.good w ρ' b:=fun b ⟨h0,hlt,hno⟩=>⟨h0,hlt,fun j y hj hy=>by
  rcases hcase j y b hj hy with⟨_,h1,h2⟩|⟨_,_,h1⟩
  ·exact hno q _ h1 h2
  ·exact hno j y h1 hy⟩
 have leaf:∀x v,x.isName=true→R w (E.good w ρ) ρ x v→R w (E.good w ρ') ρ' (giveG k q s T x) v:=by
  intro x v hx hxv
  cases hxv with
  |@ptr _ j off g hj=>
   refine .ptr ((e3 j (fun e=>?_) (fun e=>?_)).trans hj)
   ·subst e;rw[hg0] at hj;injection hj with hj;cases hj
   ·subst e;rw[hg] at hj;injection hj with hj;cases hj
  |@mp _ j g hj=>
   refine .mp ((e3 j (fun e=>?_) (fun e=>?_)).trans hj)
   ·subst e;rw[hg0] at hj;injection hj with hj;cases hj
   ·subst e;rw[hg] at hj;injection hj with hj;cases hj
  |@vptr _ j s' sz' i off g n' cap hj hi=>
   simp only[giveG]
   cases hb0:Nat.beq j k with
   |true=>exact .junk
   |false=>
    simp only[cond_false]
    cases hb:Nat.beq j q with
    |false=>exact .vptr ((e3 j (fun e=>by subst e;simp at hb0) (fun e=>by subst e;simp at hb)).trans hj) hi
    |true=>
     have:=Nat.eq_of_beq_eq_true hb
     subst this
     rw[hg] at hj
     injection hj with hj
     injection hj with h1 h2
     subst h1 h2
     simp only[cond_true]
     cases hb2:Nat.beq s s with
     |false=>exact .junk
     |true=>exact .vptr e1 hi
  |@vptrOld _ j s1 s2 sz' i off hv' v' hj hlt=>
   simp only[giveG]
   cases hb0:Nat.beq j k with
   |true=>exact .junk
   |false=>
    simp only[cond_false]
    cases hb:Nat.beq j q with
    |false=>exact .vptrOld ((e3 j (fun e=>by subst e;simp at hb0) (fun e=>by subst e;simp at hb)).trans hj) hlt
    |true=>
     have:=Nat.eq_of_beq_eq_true hb
     subst this
     rw[hg] at hj
     injection hj with hj
     injection hj with h1 h2
     subst h1
     simp only[cond_true]
     cases hb2:Nat.beq s1 s with
     |true=>have:=Nat.eq_of_beq_eq_true hb2;omega
     |false=>exact .junk
  |@vec _ j s' hv' hj=>
   simp only[giveG]
   cases hb0:Nat.beq j k with
   |true=>exact .junk
   |false=>
    simp only[cond_false]
    cases hb:Nat.beq j q with
    |false=>exact .vec ((e3 j (fun e=>by subst e;simp at hb0) (fun e=>by subst e;simp at hb)).trans hj)
    |true=>
     have:=Nat.eq_of_beq_eq_true hb
     subst this
     rw[hg] at hj
     injection hj with hj
     injection hj with h1 h2
     subst h1 h2
     simp only[cond_true]
     cases hb2:Nat.beq s s with
     |false=>exact .junk
     |true=>exact .vec e1
  |@vecOld _ j s1 s2 hv' v' hj hlt=>
   simp only[giveG]
   cases hb0:Nat.beq j k with
   |true=>exact .junk
   |false=>
    simp only[cond_false]
    cases hb:Nat.beq j q with
    |false=>exact .vecOld ((e3 j (fun e=>by subst e;simp at hb0) (fun e=>by subst e;simp at hb)).trans hj) hlt
    |true=>
     have:=Nat.eq_of_beq_eq_true hb
     subst this
     rw[hg] at hj
     injection hj with hj
     injection hj with h1 h2
     subst h1
     simp only[cond_true]
     cases hb2:Nat.beq s1 s with
     |true=>have:=Nat.eq_of_beq_eq_true hb2;omega
     |false=>exact .junk
  |_=>simp[AV.isName] at hx
 refine⟨ρ',h.convT (g:=giveG k q s T) (fun j=>if j=k then q else j) rfl (fun _=>rfl) leaf (fun j o ho=>?_) (fun j ho=>?_) (fun j x b hj hb=>?_) (fun j j' x x' b hj hj' hb hb' ht=>?_) fun j hj x hx=>?_⟩
 ·simp only[ST.give] at ho
  by_cases h1:j=k
  ·subst h1
   rw[upd_same] at ho
   injection ho with ho
   subst ho
   exact⟨hv,xs,e1,hown,hf,fun i jj x hi hx=>(hr i jj x hi hx).tr (fun b hb=>⟨hG b hb,rfl⟩) _ (Le.refl _)⟩
  ·rw[upd_other _ _ h1] at ho
   by_cases h2:j=q
   ·subst h2;rw[upd_same] at ho;cases ho
   ·rw[upd_other _ _ h2] at ho
    simp only[Option.map_eq_some_iff] at ho
    obtain⟨o1,ho1,rfl⟩:=ho
    exact(h.ob j o1 ho1).map hG leaf (e3 j h1 h2)
 ·simp only[ST.give] at ho
  by_cases h1:j=k
  ·subst h1;rw[upd_same] at ho;cases ho
  ·rw[upd_other _ _ h1] at ho
   by_cases h2:j=q
   ·subst h2;exact e2
   ·rw[upd_other _ _ h2] at ho
    rw[e3 j h1 h2]
    exact h.no j (by simpa using ho)
 ·rcases hcase j x b hj hb with⟨rfl,h1,h2⟩|⟨h1,h2,h3⟩
  ·exact⟨_,by rw[if_pos rfl];exact h1,h2⟩
  ·exact⟨x,by rw[if_neg h1];exact h3,hb⟩
 ·rcases hcase j x b hj hb with⟨rfl,h1,h2⟩|⟨h1,h2,h3⟩<;>rcases hcase j' x' b hj' hb' with⟨rfl,g1,g2⟩|⟨g1,g2,g3⟩
  ·rfl
  ·rw[if_pos rfl,if_neg g1] at ht;exact absurd ht.symm g2
  ·rw[if_pos rfl,if_neg h1] at ht;exact absurd ht h2
  ·rw[if_neg h1,if_neg g1] at ht;exact ht
 ·have hq2:j≠q:=fun e=>by
   subst e
   have:=Nat.le_of_ble_eq_true hqm
   omega
  by_cases h1:j=k
  ·subst h1
   rcases h.le j hj x hx with h2|⟨s1,v1,s2,v2,h2,h3,h4⟩
   ·rw[hg0] at h2
    injection h2 with h2
    exact .inr ⟨s0,hv0,T,hv,h2.symm,e1,hT⟩
   ·rw[hg0] at h3
    injection h3 with h3
    injection h3 with h5 h6
    exact .inr ⟨s1,v1,T,hv,h2,e1,by omega⟩
  ·rw[e3 j h1 hq2]
   exact h.le j hj x hx
theorem stealG_self (k s q:Nat):stealG k s q (.vec k s)=.vec q 0:=by simp[stealG,Nat.beq_refl]
theorem stampG_self (k s t:Nat):stampG k s t (.vec k s)=.vec k t:=by simp[stampG,Nat.beq_refl]
end Go.Eng
end
section
namespace Go.Eng
theorem tdivE (a b:Nat):Int.tdiv (a:Int) (b:Int)=((a/b:Nat):Int):=rfl
theorem tmodE (a b:Nat):Int.tmod (a:Int) (b:Int)=((a%b:Nat):Int):=rfl
section
variable {E:Env} {Q:Exit→ST→Prop} {ops:Array Oper} {o:Oper} {rest:List Oper} {f d:Nat} {args args1 args':List AV} {res res1:AV} {O O':List Ob} {K:List Nat} {obs:List (Nat×Ob)} {fr:Nat→AV} {ob:Nat→Option Ob} {nx nt:Nat} {md:Nat→Bool} {P:Program} {k:List It} {tr0:List (EffM×(List Nat×List Nat))} {T:TE}
theorem XK.rgnA (hT:TOk E.P T) {id:Nat} {ops:Array Oper} {fr fr':Nat→AV} {ob ob':Nat→Option Ob} {nx nt:Nat} {md:Nat→Bool} {obl obl':List Prop} (hd:ops.toList.all (dstOk ⟨fun _=>.junk,fun _=>none,nx,nt,md⟩)=true)
  (hr:runF T ops.toList nx nt md [] fr ob ops.toList=⟨obl,fr',ob',[]⟩) (hf:frcR obl []=some obl') (h:XK E k Q ⟨fr',ob',nx+nt,nt,md⟩)
  (ho:AllP obl':=by(first|exact trivial|(simp[AllP,impG];done)|(simp only[AllP,List.append,List.nil_append,List.cons_append,inK,Go.Eng.tdivE,Go.Eng.tmodE,Int.toNat_natCast];omega)|(simp[AllP,impG,inK,Go.Eng.tdivE,Go.Eng.tmodE];omega)|((repeat (first|(focus (first|omega|(intro i hi;first|rfl|(cases Nat.lt_one_iff.1 hi;rfl)|(rcases i with _|_|_|_|i<;>first|rfl|(exfalso;omega)))|(simp<;>omega)))|refine⟨?_,?_⟩));done)|(simp only[AllP,impG,inK];grind))):
  XK E (.code (.region id ops false)::k) Q ⟨fr,ob,nx,nt,md⟩:=
 XK.rgn (hT:=hT) (hd:=hd) (hr:=hr) (hf:=hf) (ho:=ho) (h:=h)
theorem XK.rgnB (hT:TOk E.P T) (hm:E.P.follows .mixedOrders=true) {id:Nat} {fr fr':Nat→AV} {ob ob':Nat→Option Ob} {nx nt:Nat} {md:Nat→Bool} {obl obl':List Prop} (hd:ops.toList.all (dstOk ⟨fun _=>.junk,fun _=>none,nx,nt,md⟩)=true)
  (hr:runF T ops.toList nx nt md [] fr ob ops.toList=⟨obl,fr',ob',[]⟩) (hf:frcR obl []=some obl') (h:XK E k Q ⟨fr',ob',nx+nt,nt,md⟩)
  (hc:checkD [] [] ops.toList (runD T ops.toList nx nt md [] [] fr ob ops.toList).tr=true:=by kernel_rfl)
  (ho:AllP obl':=by(first|exact trivial|(simp[AllP,impG];done)|(simp only[AllP,List.append,List.nil_append,List.cons_append,inK,Go.Eng.tdivE,Go.Eng.tmodE,Int.toNat_natCast];omega)|(simp[AllP,impG,inK,Go.Eng.tdivE,Go.Eng.tmodE];omega)|((repeat (first|(focus (first|omega|(intro i hi;first|rfl|(cases Nat.lt_one_iff.1 hi;rfl)|(rcases i with _|_|_|_|i<;>first|rfl|(exfalso;omega)))|(simp<;>omega)))|refine⟨?_,?_⟩));done)|(simp only[AllP,impG,inK];grind))):
  XK E (.code (.region id ops true)::k) Q ⟨fr,ob,nx,nt,md⟩:=
 XK.rgnD (hT:=hT) (hm:=hm) (hd:=hd) (hr:=hr) (hf:=hf) (hc:=hc) (ho:=ho) (h:=h)
theorem XL.goA (hT:TOk E.P T) {ops:Array Oper} {l rest:List Oper} {fr fr':Nat→AV} {ob ob':Nat→Option Ob} {nx nt:Nat} {md:Nat→Bool} {obl obl':List Prop} (hd:ops.toList.all (dstOk ⟨fun _=>.junk,fun _=>none,nx,nt,md⟩)=true)
  (hm:ops.toList.drop (ops.toList.length-l.length)=l) (hr:runF T ops.toList nx nt md [] fr ob l=⟨obl,fr',ob',rest⟩) (hf:frcR obl []=some obl') (h:XL E ops Q rest ⟨fr',ob',nx,nt,md⟩)
  (ho:AllP obl':=by(first|exact trivial|(simp[AllP,impG];done)|(simp only[AllP,List.append,List.nil_append,List.cons_append,inK,Go.Eng.tdivE,Go.Eng.tmodE,Int.toNat_natCast];omega)|(simp[AllP,impG,inK,Go.Eng.tdivE,Go.Eng.tmodE];omega)|((repeat (first|(focus (first|omega|(intro i hi;first|rfl|(cases Nat.lt_one_iff.1 hi;rfl)|(rcases i with _|_|_|_|i<;>first|rfl|(exfalso;omega)))|(simp<;>omega)))|refine⟨?_,?_⟩));done)|(simp only[AllP,impG,inK];grind))):XL E ops Q l ⟨fr,ob,nx,nt,md⟩:=
 XL.go (hT:=hT) (hd:=hd) (hm:=hm) (hr:=hr) (hf:=hf) (ho:=ho) (h:=h)
theorem XD.goA (hT:TOk E.P T) {l rest:List Oper} {fr fr':Nat→AV} {ob ob':Nat→Option Ob} {nx nt:Nat} {md:Nat→Bool} {obl obl':List Prop} (hd:ops.toList.all (dstOk ⟨fun _=>.junk,fun _=>none,nx,nt,md⟩)=true)
  (hm:ops.toList.drop (ops.toList.length-l.length)=l) (hr:runF T ops.toList nx nt md [] fr ob l=⟨obl,fr',ob',rest⟩) (hf:frcR obl []=some obl') (h:XD E ops Q k (runD T ops.toList nx nt md [] tr0 fr ob l).tr rest ⟨fr',ob',nx,nt,md⟩)
  (ho:AllP obl':=by(first|exact trivial|(simp[AllP,impG];done)|(simp only[AllP,List.append,List.nil_append,List.cons_append,inK,Go.Eng.tdivE,Go.Eng.tmodE,Int.toNat_natCast];omega)|(simp[AllP,impG,inK,Go.Eng.tdivE,Go.Eng.tmodE];omega)|((repeat (first|(focus (first|omega|(intro i hi;first|rfl|(cases Nat.lt_one_iff.1 hi;rfl)|(rcases i with _|_|_|_|i<;>first|rfl|(exfalso;omega)))|(simp<;>omega)))|refine⟨?_,?_⟩));done)|(simp only[AllP,impG,inK];grind))):XD E ops Q k tr0 l ⟨fr,ob,nx,nt,md⟩:=
 XD.go (hT:=hT) (hd:=hd) (hm:=hm) (hr:=hr) (hf:=hf) (ho:=ho) (h:=h)
theorem XL.callLA (hE:E.P=P) (hc:callF ⟨fr,ob,nx,nt,md⟩ o.op=some (f,args)) (hg:o.guard=none) (hds:o.dst=some d) (hd:Nat.blt d nt=true) (ho:AllP (o.op.operands.toList.flatMap (fun x=>oblG none (ST.ev ⟨fr,ob,nx,nt,md⟩ x))))
  (hfa:frcL (AV.lendL ob args)=some args1) (hP:Does P f args' res) (hfl:res.flat=true) (h:XL E ops Q rest ⟨upd fr d res,ob,nx,nt,md⟩)
  (ha:AvIsL args1 args':=by((repeat' (first|exact rfl|exact AvIs.refl _|exact trivial|(intro i hi;rfl)|exact fun _ _=>⟨rfl,AvIs.refl _⟩|(intro i hi;rcases i with _|_|_|_|_|_|_|i<;>first|rfl|(exfalso;omega))|refine⟨?_,?_⟩));done)):XL E ops Q (o::rest) ⟨fr,ob,nx,nt,md⟩:=
 XL.callL (hE:=hE) (hc:=hc) (hg:=hg) (hds:=hds) (hd:=hd) (ho:=ho) (hfa:=hfa) (hP:=hP) (ha:=ha) (hfl:=hfl) (h:=h)
theorem XL.callKA (hE:E.P=P) (hc:callF ⟨fr,ob,nx,nt,md⟩ o.op=some (f,args)) (hg:o.guard=none) (hds:o.dst=some d) (hd:Nat.blt d nt=true) (ho:AllP (o.op.operands.toList.flatMap (fun x=>oblG none (ST.ev ⟨fr,ob,nx,nt,md⟩ x))))
  (hfa:frcL args=some args1) (hks:AV.ksL (fun _=>false) args1=true) (hP:Does P f args' res) (h:XL E ops Q rest ⟨upd fr d res,ob,nx,nt,md⟩)
  (ha:AvIsL args1 args':=by((repeat' (first|exact rfl|exact AvIs.refl _|exact trivial|(intro i hi;rfl)|exact fun _ _=>⟨rfl,AvIs.refl _⟩|(intro i hi;rcases i with _|_|_|_|_|_|_|i<;>first|rfl|(exfalso;omega))|refine⟨?_,?_⟩));done)):XL E ops Q (o::rest) ⟨fr,ob,nx,nt,md⟩:=
 XL.callK (hE:=hE) (hc:=hc) (hg:=hg) (hds:=hds) (hd:=hd) (ho:=ho) (hfa:=hfa) (hks:=hks) (hP:=hP) (ha:=ha) (h:=h)
theorem XL.callMA (K:List Nat) (hE:E.P=P) (hc:callF ⟨fr,ob,nx,nt,md⟩ o.op=some (f,args)) (hg:o.guard=none) (hds:o.dst=some d) (hdl:Nat.blt d nt=true) (ho:AllP (o.op.operands.toList.flatMap (fun x=>oblG none (ST.ev ⟨fr,ob,nx,nt,md⟩ x))))
  (hP:DoesM P f args' O res O') (hfa:frcL (AV.mapL (renG (posF (K.take O.length))) args)=some args1) (hd:nodupB K=true) (hnew:(K.drop O.length).all (fun k=>(ob k).isNone)=true) (hob:backF (renG (fun i=>K[i]?)) K O'=some obs) (hres:frc (res.map (renG (fun i=>K[i]?)))=some res1)
  (h:XL E ops Q rest ⟨upd fr d res1,putAll ob obs,nx,nt,md⟩)
  (ha:AvIsL args1 args':=by((repeat' (first|exact rfl|exact AvIs.refl _|exact trivial|(intro i hi;rfl)|exact fun _ _=>⟨rfl,AvIs.refl _⟩|(intro i hi;rcases i with _|_|_|_|_|_|_|i<;>first|rfl|(exfalso;omega))|refine⟨?_,?_⟩));done))
  (hv:ViewIs ob (posF (K.take O.length)) (K.take O.length) O:=by((repeat' (first|exact rfl|exact AvIs.refl _|exact trivial|(intro i hi;rfl)|exact fun _ _=>⟨rfl,AvIs.refl _⟩|(intro i hi;rcases i with _|_|_|_|_|_|_|i<;>first|rfl|(exfalso;omega))|refine⟨?_,?_⟩));done)):XL E ops Q (o::rest) ⟨fr,ob,nx,nt,md⟩:=
 XL.callM (K:=K) (hE:=hE) (hc:=hc) (hg:=hg) (hds:=hds) (hdl:=hdl) (ho:=ho) (hP:=hP) (hfa:=hfa) (ha:=ha) (hd:=hd) (hv:=hv) (hnew:=hnew) (hob:=hob) (hres:=hres) (h:=h)
theorem XD.callLA (hE:E.P=P) (hc:callF ⟨fr,ob,nx,nt,md⟩ o.op=some (f,args)) (hg:o.guard=none) (hds:o.dst=some d) (hd:Nat.blt d nt=true) (ho:AllP (o.op.operands.toList.flatMap (fun x=>oblG none (ST.ev ⟨fr,ob,nx,nt,md⟩ x))))
  (hfa:frcL (AV.lendL ob args)=some args1) (hP:Does P f args' res) (hfl:res.flat=true) (h:XD E ops Q k (tr0++[(⟨res,[]⟩,fpF ops.toList ⟨fr,ob,nx,nt,md⟩ o)]) rest ⟨upd fr d res,ob,nx,nt,md⟩)
  (ha:AvIsL args1 args':=by((repeat' (first|exact rfl|exact AvIs.refl _|exact trivial|(intro i hi;rfl)|exact fun _ _=>⟨rfl,AvIs.refl _⟩|(intro i hi;rcases i with _|_|_|_|_|_|_|i<;>first|rfl|(exfalso;omega))|refine⟨?_,?_⟩));done)):XD E ops Q k tr0 (o::rest) ⟨fr,ob,nx,nt,md⟩:=
 XD.callL (hE:=hE) (hc:=hc) (hg:=hg) (hds:=hds) (hd:=hd) (ho:=ho) (hfa:=hfa) (hP:=hP) (ha:=ha) (hfl:=hfl) (h:=h)
theorem XD.callKA (hE:E.P=P) (hc:callF ⟨fr,ob,nx,nt,md⟩ o.op=some (f,args)) (hg:o.guard=none) (hds:o.dst=some d) (hd:Nat.blt d nt=true) (ho:AllP (o.op.operands.toList.flatMap (fun x=>oblG none (ST.ev ⟨fr,ob,nx,nt,md⟩ x))))
  (hfa:frcL args=some args1) (hks:AV.ksL (fun _=>false) args1=true) (hP:Does P f args' res) (h:XD E ops Q k (tr0++[(⟨res,[]⟩,fpF ops.toList ⟨fr,ob,nx,nt,md⟩ o)]) rest ⟨upd fr d res,ob,nx,nt,md⟩)
  (ha:AvIsL args1 args':=by((repeat' (first|exact rfl|exact AvIs.refl _|exact trivial|(intro i hi;rfl)|exact fun _ _=>⟨rfl,AvIs.refl _⟩|(intro i hi;rcases i with _|_|_|_|_|_|_|i<;>first|rfl|(exfalso;omega))|refine⟨?_,?_⟩));done)):XD E ops Q k tr0 (o::rest) ⟨fr,ob,nx,nt,md⟩:=
 XD.callK (hE:=hE) (hc:=hc) (hg:=hg) (hds:=hds) (hd:=hd) (ho:=ho) (hfa:=hfa) (hks:=hks) (hP:=hP) (ha:=ha) (h:=h)
theorem XD.callMA (K:List Nat) (hE:E.P=P) (hc:callF ⟨fr,ob,nx,nt,md⟩ o.op=some (f,args)) (hg:o.guard=none) (hds:o.dst=some d) (hdl:Nat.blt d nt=true) (ho:AllP (o.op.operands.toList.flatMap (fun x=>oblG none (ST.ev ⟨fr,ob,nx,nt,md⟩ x))))
  (hP:DoesM P f args' O res O') (hfa:frcL (AV.mapL (renG (posF (K.take O.length))) args)=some args1) (hd:nodupB K=true) (hnew:(K.drop O.length).all (fun k=>(ob k).isNone)=true) (hob:backF (renG (fun i=>K[i]?)) K O'=some obs) (hres:frc (res.map (renG (fun i=>K[i]?)))=some res1)
  (h:XD E ops Q k (tr0++[(⟨res1,obs⟩,fpK ops.toList o K)]) rest ⟨upd fr d res1,putAll ob obs,nx,nt,md⟩)
  (ha:AvIsL args1 args':=by((repeat' (first|exact rfl|exact AvIs.refl _|exact trivial|(intro i hi;rfl)|exact fun _ _=>⟨rfl,AvIs.refl _⟩|(intro i hi;rcases i with _|_|_|_|_|_|_|i<;>first|rfl|(exfalso;omega))|refine⟨?_,?_⟩));done))
  (hv:ViewIs ob (posF (K.take O.length)) (K.take O.length) O:=by((repeat' (first|exact rfl|exact AvIs.refl _|exact trivial|(intro i hi;rfl)|exact fun _ _=>⟨rfl,AvIs.refl _⟩|(intro i hi;rcases i with _|_|_|_|_|_|_|i<;>first|rfl|(exfalso;omega))|refine⟨?_,?_⟩));done)):XD E ops Q k tr0 (o::rest) ⟨fr,ob,nx,nt,md⟩:=
 XD.callM (K:=K) (hE:=hE) (hc:=hc) (hg:=hg) (hds:=hds) (hdl:=hdl) (ho:=ho) (hP:=hP) (hfa:=hfa) (ha:=ha) (hd:=hd) (hv:=hv) (hnew:=hnew) (hob:=hob) (hres:=hres) (h:=h)
theorem XL.callGA {j:Nat} {pol g:Bool} (hE:E.P=P) (hc:callF ⟨fr,ob,nx,nt,md⟩ o.op=some (f,args)) (hg:o.guard=some (j,pol)) (hgv:gval ⟨fr,ob,nx,nt,md⟩ ops.toList j pol=some g) (hds:o.dst=some d) (hd:Nat.blt d nt=true) (hda:ops.toList.all (dstOk ⟨fun _=>.junk,fun _=>none,nx,nt,md⟩)=true)
  {obl':List Prop} (hf:frcP (o.op.operands.toList.flatMap (fun x=>oblG (some g) (ST.ev ⟨fr,ob,nx,nt,md⟩ x)))=some obl')
  (hfa:frcL (AV.lendL ob args)=some args1) (hP:Does P f args' res) (hfl:res.flat=true) (h:XL E ops Q rest ⟨upd fr d (.gd g res),ob,nx,nt,md⟩)
  (ho:AllP obl':=by(first|(simp[AllP,impG];done)|(simp only[AllP,impG];grind))) (ha:AvIsL args1 args':=by((repeat' (first|exact rfl|exact AvIs.refl _|exact trivial|(intro i hi;rfl)|exact fun _ _=>⟨rfl,AvIs.refl _⟩|(intro i hi;rcases i with _|_|_|_|_|_|_|i<;>first|rfl|(exfalso;omega))|refine⟨?_,?_⟩));done)):XL E ops Q (o::rest) ⟨fr,ob,nx,nt,md⟩:=
 XL.callLG hE hc hg hgv hds hd hda hf ho hfa (fun _=>⟨hP,ha⟩) hfl h
theorem XD.callGA {j:Nat} {pol g:Bool} (hE:E.P=P) (hc:callF ⟨fr,ob,nx,nt,md⟩ o.op=some (f,args)) (hg:o.guard=some (j,pol)) (hgv:gval ⟨fr,ob,nx,nt,md⟩ ops.toList j pol=some g) (hds:o.dst=some d) (hd:Nat.blt d nt=true) (hda:ops.toList.all (dstOk ⟨fun _=>.junk,fun _=>none,nx,nt,md⟩)=true)
  {obl':List Prop} (hf:frcP (o.op.operands.toList.flatMap (fun x=>oblG (some g) (ST.ev ⟨fr,ob,nx,nt,md⟩ x)))=some obl')
  (hfa:frcL args=some args1) (hks:AV.ksL (fun _=>false) args1=true) (hP:Does P f args' res) (hfl:res.flat=true) (h:XD E ops Q k (tr0++[(⟨.gd g res,[]⟩,fpF ops.toList ⟨fr,ob,nx,nt,md⟩ o)]) rest ⟨upd fr d (.gd g res),ob,nx,nt,md⟩)
  (ho:AllP obl':=by(first|(simp[AllP,impG];done)|(simp only[AllP,impG];grind))) (ha:AvIsL args1 args':=by((repeat' (first|exact rfl|exact AvIs.refl _|exact trivial|(intro i hi;rfl)|exact fun _ _=>⟨rfl,AvIs.refl _⟩|(intro i hi;rcases i with _|_|_|_|_|_|_|i<;>first|rfl|(exfalso;omega))|refine⟨?_,?_⟩));done)):XD E ops Q k tr0 (o::rest) ⟨fr,ob,nx,nt,md⟩:=
 XD.callKG hE hc hg hgv hds hd hda hf ho hfa hks (fun _=>⟨hP,ha⟩) hfl h
end
end Go.Eng
end
section
namespace Go.Eng
theorem SatR.setFr {E:Env} {st:ST} {a:Act} {w:World} {ρ:Rho} (h:SatR E st a w ρ) {d:Nat} {x:AV} (hx:R w (E.good w ρ) ρ x (a.tmps.getD d undef)):SatR E {st with fr:=upd st.fr d x} a w ρ:=
 ⟨h.keep,h.tsz,h.dfr,h.gl,fun k=>by
  by_cases hk:k=d
  ·subst hk;simp only[upd_same];exact hx
  ·simp only[upd_other _ _ hk];exact h.fr k,h.ob,h.no,h.dis,h.own,h.le⟩
theorem XK.rsNil {E:Env} {st:ST} {k:List It} {c:Code} {Q:Exit→ST→Prop} (d:Nat) {sz:Nat} {f:Nat→List AV} (hd:st.fr d=.rs sz 0 f)
  (h:∀A cap,cap≤maxLen→XK E (.code c::k) Q {st with fr:=upd st.fr d (.c (.slice A 0 cap))}):XK E (.code c::k) Q st:=by
 intro a w ⟨ρ,hs⟩
 have hr:=hs.fr d
 rw[hd] at hr
 obtain⟨A,cap,hv,_,hm,_,_⟩:=hr.rs_inv
 refine h A cap hm a w ⟨ρ,hs.setFr ?_⟩
 rw[hv]
 exact .c
theorem Weak.rsNil {E:Env} {st:ST} (d:Nat) (sz:Nat) (f:Nat→List AV) {A:Option Addr} {cap:Nat} (hc:cap≤maxLen) (hd:st.fr d=.c (.slice A 0 cap)):Weak E st {st with fr:=upd st.fr d (.rs sz 0 f)}:=by
 intro a w ⟨ρ,hs⟩
 refine⟨ρ,hs.setFr ?_⟩
 have hr:=hs.fr d
 rw[hd] at hr
 rw[hr.c_inv]
 exact R.rs_mk (Nat.zero_le _) hc (fun i hi=>absurd hi (Nat.not_lt_zero _)) (fun h=>absurd h (Nat.not_lt_zero _))
section
variable {E:Env} {st:ST}
end
section
variable {E:Env} {Q:Exit→ST→Prop} {ops:Array Oper} {o:Oper} {rest:List Oper} {l d:Nat} {args args1 args':List AV} {res res1:AV} {O O':List Ob} {K:List Nat} {obs:List (Nat×Ob)} {fr:Nat→AV} {ob:Nat→Option Ob} {nx nt:Nat} {md:Nat→Bool} {P:Program} {k:List It} {tr0:List (EffM×(List Nat×List Nat))}
end
end Go.Eng
end
section
namespace Go.Eng
set_option linter.unnecessarySimpa false
open Go.WideShapes
def Lies (w:World) (l:List AV) (cs:List Value):Prop:=cs.length=l.length∧∀i x,l[i]?=some x→R w (fun b=>b<w.heap.size) Rho.none x (cs.getD i undef)
structure Codec (P:Program) (t:Nat) (α:Type) where
 enc:α→List AV
 ok:α→Prop
 sz:Nat
 cells:P.cellsOf t=sz
 len:∀a,(enc a).length=sz
 open_:∀{H:Type} {e:TypeId×Value→H} {w:World} {base:Nat} {spare:Nat→Bool} {held:Bool} {fuel:Nat} {cs:List Value} {x:DataW H×List MemPlace},
  DataW.trod e P w base spare held fuel t cs=some x→∃a,ok a∧Lies w (enc a) cs
theorem lies_one {w:World} {x:AV} {v:Value} (h:R w (fun b=>b<w.heap.size) Rho.none x v):Lies w [x] [v]:=
 ⟨rfl,fun i y hy=>by
  match i with
  |0=>simp at hy;subst hy;exact h
  |i+1=>simp at hy⟩
theorem lies_app {w:World} {l l':List AV} {cs cs':List Value} (h:Lies w l cs) (h':Lies w l' cs'):Lies w (l++l') (cs++cs'):=by
 refine⟨by simp[h.1,h'.1],fun i x hx=>?_⟩
 by_cases hi:i<l.length
 ·rw[List.getElem?_append_left hi] at hx
  have:=h.2 i x hx
  have hi':i<cs.length:=by rw[h.1];exact hi
  simpa[List.getElem?_append_left hi'] using this
 ·rw[List.getElem?_append_right (by omega)] at hx
  have:=h'.2 _ x hx
  have hi':cs.length≤i:=by rw[h.1];omega
  rw[←h.1] at this
  simpa[List.getElem?_append_right hi'] using this
theorem inK_of_wf {k:IntKind} {n:Int} (h:(Lit.int k n).wf=true):inK k n:=by
 cases k<;>simp only[Lit.wf,IntKind.min,IntKind.max,IntKind.signed,IntKind.bits,Bool.and_eq_true,decide_eq_true_eq,inK] at h ⊢<;>simp at h<;>omega
section
variable {P:Program} {t:Nat} {α:Type}
def Codec.int (k:IntKind) (ht:P.underlying t=some (.int k)) (hc:P.cellsOf t=1):Codec P t Int:=
 {enc:=fun n=>[.c (.int k n)],ok:=inK k,sz:=1,cells:=hc,len:=fun _=>rfl,
  open_:=fun h=>by
   obtain⟨n,rfl,_,hw⟩:=DataW.trod_int ht h
   exact⟨n,inK_of_wf hw,lies_one .c⟩}
def Codec.bool (ht:P.underlying t=some .bool) (hc:P.cellsOf t=1):Codec P t Bool:=
 {enc:=fun n=>[.c (.bool n)],ok:=fun _=>True,sz:=1,cells:=hc,len:=fun _=>rfl,
  open_:=fun h=>by
   obtain⟨n,rfl,_⟩:=DataW.trod_bool ht h
   exact⟨n,trivial,lies_one .c⟩}
def Codec.str (ht:P.underlying t=some .string) (hc:P.cellsOf t=1):Codec P t ByteArray:=
 {enc:=fun n=>[.c (.string n)],ok:=fun s=>s.size≤maxLen,sz:=1,cells:=hc,len:=fun _=>rfl,
  open_:=fun h=>by
   obtain⟨n,rfl,_,hm⟩:=DataW.trod_string ht h
   exact⟨n,hm,lies_one .c⟩}
def rowL [Inhabited α] (enc:α→List AV) (sz:Nat) (l:List α):AV:=.rs sz l.length (fun i=>enc (l.getD i default))
theorem slice_opens [Inhabited α] {e:Nat} (c:Codec P e α) (ht:P.underlying t=some (.slice e)) (hpos:0<c.sz) {H:Type} {en:TypeId×Value→H} {w:World} {base:Nat} {spare:Nat→Bool} {held:Bool} {fuel:Nat} {cs:List Value} {x:DataW H×List MemPlace}
  (h:DataW.trod en P w base spare held fuel t cs=some x):∃l:List α,(∀a∈l,c.ok a)∧∃v,cs=[v]∧R w (fun b=>b<w.heap.size) Rho.none (rowL c.enc c.sz l) v:=by
 rcases DataW.trod_slice ht h with⟨rfl,_⟩|⟨a,len,cap,elems,rest,n,rfl,rfl,_,hb,hl,hm,hel,hat,_,_⟩
 ·refine⟨[],(fun a h=>by cases h),_,rfl,?_⟩
  exact .rs (fun _ _=>undef) (Nat.le_refl _) (Nat.zero_le _) (fun h=>absurd h (by simp)) (fun i hi=>absurd hi (by simp)) (fun i j x hi=>absurd hi (by simp))
 ·have key:∀i,i<len→∃al,c.ok al∧∃ec,w.cells? base (a.add (i*c.sz)) c.sz=some ec∧Lies w (c.enc al) ec:=by
   intro i hi
   have h1:=hat i hi
   rw[List.getElem?_eq_getElem (hel▸hi)] at h1
   rw[Option.bind_eq_some_iff] at h1
   obtain⟨ec,h2,h3⟩:=h1
   obtain⟨al,h4,h5⟩:=c.open_ h3
   rw[c.cells] at h2
   exact⟨al,h4,ec,h2,h5⟩
  let f:Nat→α:=fun i=>if hi:i<len then(key i hi).choose else default
  have hf:∀i,i<len→c.ok (f i)∧∃ec,w.cells? base (a.add (i*c.sz)) c.sz=some ec∧Lies w (c.enc (f i)) ec:=by
   intro i hi
   have:f i=(key i hi).choose:=by simp only[f,dif_pos hi]
   rw[this]
   exact(key i hi).choose_spec
  have hg:∀i,i<len→((List.range len).map f).getD i default=f i:=by
   intro i hi
   simp[List.getElem?_map,List.getElem?_range hi]
  refine⟨(List.range len).map f,?_,_,rfl,?_⟩
  ·intro al hal
   obtain⟨i,hi,rfl⟩:=List.mem_map.1 hal
   exact(hf i (by simpa using hi)).1
  ·have hcell:∀i j,i<len→j<c.sz→∃v,w.cell? (a.add (i*c.sz+j))=some v∧∀x,(c.enc (f i))[j]?=some x→R w (fun b=>b<w.heap.size) Rho.none x v:=by
    intro i j hi hj
    obtain⟨_,ec,h2,h3⟩:=hf i hi
    obtain⟨_,h5,h6⟩:=World.cells?_some h2
    have hlen:ec.length=c.sz:=by rw[h3.1,c.len]
    have h7:=h6 j hj
    rw[add_add,List.getElem?_eq_getElem (by omega)] at h7
    refine⟨ec[j],h7,fun x hx=>?_⟩
    have:=h3.2 j x hx
    simpa[List.getElem?_eq_getElem (show j<ec.length by omega)] using this
   let val:Nat→Nat→Value:=fun i j=>if hh:i<len∧j<c.sz then(hcell i j hh.1 hh.2).choose else undef
   have hval:∀i j,i<len→j<c.sz→w.cell? (a.add (i*c.sz+j))=some (val i j)∧∀x,(c.enc (f i))[j]?=some x→R w (fun b=>b<w.heap.size) Rho.none x (val i j):=by
    intro i j hi hj
    have:val i j=(hcell i j hi hj).choose:=by simp only[val,dif_pos (And.intro hi hj)]
    rw[this]
    exact(hcell i j hi hj).choose_spec
   have hblk:0<len→a.block<w.heap.size:=by
    intro h0
    have:=(hval 0 0 h0 hpos).1
    unfold World.cell? at this
    split at this
    ·rename_i hh
     rw[block_add] at hh
     exact(Array.getElem?_eq_some_iff.1 hh).1
    ·cases this
   unfold rowL
   rw[show((List.range len).map f).length=len by simp]
   refine .rs val hl hm (fun h0=>?_) (fun i hi=>c.len _) (fun i j x hi hx=>?_)
   ·refine⟨a,rfl,hblk h0,fun i j hi hj=>(hval i j hi hj).1⟩
   ·have hi':i<len:=hi
    rw[hg i hi'] at hx
    have hj:j<c.sz:=by
     rw[←c.len (f i)]
     exact(List.getElem?_eq_some_iff.1 hx).1
    exact(hval i j hi' hj).2 x hx
def Codec.slice [Inhabited α] {e:Nat} (c:Codec P e α) (ht:P.underlying t=some (.slice e)) (hpos:0<c.sz) (hc:P.cellsOf t=1):Codec P t (List α):=
 {enc:=fun l=>[rowL c.enc c.sz l],ok:=fun l=>∀a∈l,c.ok a,sz:=1,cells:=hc,len:=fun _=>rfl,
  open_:=fun h=>by
   obtain⟨l,h1,v,rfl,h2⟩:=slice_opens c ht hpos h
   exact⟨l,h1,lies_one h2⟩}
def Codec.map {β:Type} (c:Codec P t α) (f:α→β) (enc:β→List AV) (ok:β→Prop) (h:∀a,enc (f a)=c.enc a) (hl:∀b,(enc b).length=c.sz) (hok:∀a,c.ok a→ok (f a)):Codec P t β:=
 {enc:=enc,ok:=ok,sz:=c.sz,cells:=c.cells,len:=hl,
  open_:=fun hh=>by
   obtain⟨a,h1,h2⟩:=c.open_ hh
   exact⟨f a,hok a h1,by rw[h];exact h2⟩}
structure FCodec (P:Program) (off:Nat) (fs:List (Nat×Nat)) (α:Type) where
 enc:α→List AV
 ok:α→Prop
 sz:Nat
 len:∀a,(enc a).length=sz
 open_:∀{H:Type} {e:TypeId×Value→H} {w:World} {base:Nat} {spare:Nat→Bool} {held:Bool} {fuel:Nat} {cs:List Value},off+sz≤cs.length→
  (∀f∈fs,∃x,DataW.trod e P w base spare held fuel f.2 ((cs.drop f.1).take (P.cellsOf f.2))=some x)→∃a,ok a∧Lies w (enc a) ((cs.drop off).take sz)
def FCodec.nil (P:Program) (off:Nat):FCodec P off [] Unit:=
 {enc:=fun _=>[],ok:=fun _=>True,sz:=0,len:=fun _=>rfl,open_:=fun _ _=>⟨(),trivial,by simp[Lies]⟩}
def FCodec.cons {off t:Nat} {fs:List (Nat×Nat)} {α β:Type} (c:Codec P t α) (r:FCodec P (off+c.sz) fs β):FCodec P off ((off,t)::fs) (α×β):=
 {enc:=fun x=>c.enc x.1++r.enc x.2,ok:=fun x=>c.ok x.1∧r.ok x.2,sz:=c.sz+r.sz,len:=fun x=>by simp[c.len,r.len],
  open_:=fun{H e w base spare held fuel cs} hlen hfs=>by
   obtain⟨x,hx⟩:=hfs (off,t) (by simp)
   rw[c.cells] at hx
   obtain⟨a,h1,h2⟩:=c.open_ hx
   obtain⟨b,h3,h4⟩:=r.open_ (cs:=cs) (by omega) (fun g hg=>hfs g (by simp[hg]))
   refine⟨(a,b),⟨h1,h3⟩,?_⟩
   have:(cs.drop off).take (c.sz+r.sz)=(cs.drop off).take c.sz++(cs.drop (off+c.sz)).take r.sz:=by
    rw[List.take_add,List.drop_drop]
   rw[this]
   exact lies_app h2 h4}
theorem mapM_places {P:Program}:∀{fs:List Field} {pl:List (Nat×Nat)},fs.mapM (fun f=>(P.info? f.type).map fun i=>(f.offset,i.size))=some pl→pl.map (·.1)=fs.map (·.offset)
 |[],pl,h=>by
  have:pl=[]:=by simpa using h.symm
  subst this;rfl
 |f::fs,pl,h=>by
  rw[List.mapM_cons] at h
  cases hx:P.info? f.type with
  |none=>simp[hx] at h
  |some i=>
   cases hxs:fs.mapM (fun f=>(P.info? f.type).map fun i=>(f.offset,i.size)) with
   |none=>simp[hx,hxs] at h
   |some l=>
    simp[hx,hxs] at h
    subst h
    simp[mapM_places hxs]
def Codec.struct {pl:List (Nat×Nat)} {ty:List Nat} (hk:KindOk P t (.struct pl ty)) {fl:List (Nat×Nat)} (hfl:(pl.map (·.1)).zip ty=fl) (c:FCodec P 0 fl α) (hc:P.cellsOf t=c.sz):Codec P t α:=
 {enc:=c.enc,ok:=c.ok,sz:=c.sz,cells:=hc,len:=c.len,
  open_:=fun{H e w base spare held fuel cs x} h=>by
   obtain⟨fs,ht,hm,hty⟩:=hk
   obtain⟨xs,n,rfl,_,hlen,hxs,hat⟩:=DataW.trod_struct ht h
   subst hfl
   have hl:cs.length=c.sz:=hlen.trans hc
   obtain⟨a,h1,h2⟩:=c.open_ (e:=e) (w:=w) (base:=base) (spare:=spare) (held:=held) (fuel:=n) (cs:=cs) (by omega) (fun f hf=>by
    rw[mapM_places hm,←hty] at hf
    obtain⟨i,hi,hi'⟩:=List.getElem_of_mem hf
    simp only[List.length_zip,List.length_map,Nat.min_self] at hi
    simp only[List.getElem_zip,List.getElem_map] at hi'
    have h3:=hat i fs.toList[i] (by simpa using List.getElem?_eq_getElem hi)
    rw[←hi']
    simp only
    rw[h3]
    have hlt:i<xs.length:=by rw[hxs];simpa using hi
    exact⟨xs[i],List.getElem?_eq_getElem hlt⟩)
   refine⟨a,h1,?_⟩
   have:(cs.drop 0).take c.sz=cs:=by simp[←hl]
   rw[this] at h2
   exact h2}
theorem arg_one {base:Nat} {w:World} {v:Value} {H:Type} {en:TypeId×Value→H} {spare:Nat→Bool} {held:Bool} {d:DataW H} {p:List MemPlace} (c:Codec P t α) (x:α→AV) (hx:∀a,c.enc a=[x a])
  (hns:∀l,v≠.agg l) (h:DataW.Trod en P w base spare held t v d p):∃a,c.ok a∧R w (fun b=>b<w.heap.size) Rho.none (x a) v:=by
 obtain⟨fuel,hf⟩:=h
 rw[Value.cells_one hns] at hf
 obtain⟨a,h1,h2⟩:=c.open_ hf
 rw[hx] at h2
 exact⟨a,h1,by simpa using h2.2 0 (x a) rfl⟩
def oneKind (d:Option TypeDesc):Bool:=match d with
 |some (.int _)=>true
 |some .bool=>true
 |some .string=>true
 |some (.slice _)=>true
 |_=>false
theorem okWide_one {Q:Reach} {base:Nat} {w:World} {v:Value} (h:Value.okWide P w Q base t v) (hk:oneKind (P.underlying t)=true):∀l,v≠.agg l:=by
 intro l e
 subst e
 unfold oneKind at hk
 split at hk
 all_goals first|cases hk|skip
 all_goals
  rename_i hu
  simp only[Value.okWide,hu,Cell.okWide] at h
  simp[Cell.ok] at h
theorem arg_cell {Q:Reach} {base b0:Nat} {w:World} {v:Value} {H:Type} {en:TypeId×Value→H} {spare:Nat→Bool} {held:Bool} {d:DataW H} {p:List MemPlace} (c:Codec P t α) (x:α→AV) (hx:∀a,c.enc a=[x a])
  (hk:oneKind (P.underlying t)=true) (hv:Value.okWide P w Q b0 t v) (h:DataW.Trod en P w base spare held t v d p):∃a,c.ok a∧R w (fun b=>b<w.heap.size) Rho.none (x a) v:=
 arg_one c x hx (okWide_one hv hk) h
theorem arg_agg {Q:Reach} {base b0:Nat} {w:World} {v:Value} {H:Type} {en:TypeId×Value→H} {spare:Nat→Bool} {held:Bool} {d:DataW H} {p:List MemPlace} (c:Codec P t α) {fs:Array Field}
  (ht:P.underlying t=some (.struct fs)) (hv:Value.okWide P w Q b0 t v) (h:DataW.Trod en P w base spare held t v d p):∃a,c.ok a∧R w (fun b=>b<w.heap.size) Rho.none (.agg (c.enc a)) v:=by
 simp only[Value.okWide,ht] at hv
 obtain⟨cs,rfl,hsz,_⟩:=hv
 obtain⟨fuel,hf⟩:=h
 obtain⟨a,h1,h2⟩:=c.open_ hf
 simp only[Value.cells] at h2
 refine⟨a,h1,.agg (by simpa using h2.1) fun i x hx=>by simpa using h2.2 i x hx⟩
end
theorem Does.call {P:Program} {f:FuncId} {args:List AV} {res:AV} (h:Does P f args res) {w:World} {vs:Array Value} (hs:vs.size=args.length) (hgl:GlIn w (fun b=>b<w.heap.size)) (hr:∀i x,args[i]?=some x→R w (fun b=>b<w.heap.size) Rho.none x (vs.getD i undef)) {Q:Ending→World→Prop}
  (hq:∀v w',Go.RowKit.Below w.heap.size w w'→R w' (fun _=>True) Rho.none res v→Q (.returned v) w'):Calls P f vs w Q:=by
 refine(h.2 w (fun b=>b<w.heap.size) vs hs (fun _ h=>h) hgl hr).mono ?_
 rintro e w' ⟨v,rfl,hk,hv⟩
 exact hq v w' hk.below (hv.tr (fun _ _=>⟨trivial,rfl⟩) _ (Le.refl _))
end Go.Eng
end
