import Derived.Test.YtgpkkllbejgmlaaGreatDoorZz14
import Derived.Test.YtgpkkllbejgmlaaGreatDoorZz19
set_option linter.unusedSimpArgs false
set_option linter.unusedVariables false
set_option maxRecDepth 10000
section
namespace Go.Eng
open Go.Sort Go.Lib
structure MapDom (kk:KK) (d:Value→Bool) (L:List Value):Prop where
 nodup:L.Nodup
 has:∀v∈L,kk.has v=true
 dom:∀v,kk.has v=true→(d v=true↔v∈L)
section
variable {E:Env} {st:ST} {a:Act} {w:World} {ρ:Rho} {Q:Exit→ST→Prop} {T:TE} {ops:Array Oper} {rest:List Oper} {o:Oper}
theorem dom_size {kk:KK} {d:Value→Bool} {L:List Value} (hL:MapDom kk d L) {es:Array MapEntry} {clock:Nat} (hs:Go.MapKept.Stamped es clock) (hk:∀e∈es.toList,kk.has e.key=true)
  (hd:∀v,kk.has v=true→∃r,Holds es.toList v r∧r.isSome=d v):es.size=L.length:=by
 have hp:(es.toList.map (·.key)).Perm L:=by
  refine(List.perm_ext_iff_of_nodup hs.2.2 hL.nodup).2 fun v=>?_
  constructor
  ·intro hv
   obtain⟨e,he,rfl⟩:=List.mem_map.1 hv
   obtain⟨r,r1,r2⟩:=hd _ (hk e he)
   refine(hL.dom _ (hk e he)).1 ?_
   rcases r1 with⟨_,r1⟩|⟨_,_,_,rfl⟩
   ·exact absurd rfl (r1 e he)
   ·rw[←r2];rfl
  ·intro hv
   have h1:=hL.has v hv
   have h2:=(hL.dom v h1).2 hv
   obtain⟨r,r1,r2⟩:=hd v h1
   rw[h2] at r2
   rcases r1 with⟨rfl,_⟩|⟨e,he,rfl,_⟩
   ·cases r2
   ·exact List.mem_map.2 ⟨e,he,rfl⟩
 have:=hp.length_eq
 simpa using this
theorem XL.lenMap {t d m kt et:Nat} {x:Operand} {ti:TI} {kk:KK} {zv:Value} {dm:Value→Bool} {f:Value→AV} {L:List Value} (hL:MapDom kk dm L) (hT:TOk E.P T)
  (ho:o.op=.call {callee:=.builtin .len,args:=#[x],argTypes:=#[t]}) (hg:o.guard=none) (hd:o.dst=some d) (hdl:Nat.blt d st.nt=true)
  (ht:T.find t=some ti) (hkd:ti.kind=.map kt et) (hx:st.ev x=.mp m) (hm:st.ob m=some (.mapb kk zv dm f))
  (h:XL E ops Q rest {st with fr:=upd st.fr d (.c (.int .i64 L.length))}):XL E ops Q (o::rest) st:=by
 refine XL.any hg fun a w ρ hs=>?_
 obtain⟨g,es,clock,h1,h2,⟨h3,h4⟩,h5⟩:=hs.ob m _ hm
 have hk:=(hT t ti ht).kind
 rw[hkd] at hk
 have hev:a.eval x=.map (some g):=by
  have:=hs.ev x
  rw[hx] at this
  generalize a.eval x=u at this
  cases this with|mp hk=>rw[h1] at hk;injection hk with hk;injection hk with hk;rw[hk]
 have hsz:=dom_size hL h3 h4 fun v hv=>by
  obtain⟨r,r1,r2,_⟩:=h5 v hv
  exact⟨r,r1,r2⟩
 refine⟨.int .i64 L.length,w,?_,_,⟨ρ,?_⟩,h⟩
 ·simp[execOp,ho,resolve,invoke,builtin,hev,Builtin.len_,run_underlying hk,Go.MapKept.run_getObj_map h2,goInt,hsz,Result.andThen]
 ·rw[hd]
  exact hs.put (Nat.lt_of_succ_le (Nat.le_of_ble_eq_true hdl)) .c
def dstF (fr:Nat→AV):Option Nat→Nat→AV
 |some d=>upd fr d .junk
 |none=>fr
theorem erase_get {l:List MapEntry} {j:Nat} {e:MapEntry} (hn:(l.map (·.key)).Nodup) (hj:l[j]?=some e) (x:MapEntry):x∈l.eraseIdx j↔x∈l∧x.key≠e.key:=by
 rw[List.mem_eraseIdx_iff_getElem?]
 constructor
 ·rintro⟨i,hij,hi⟩
  refine⟨List.mem_of_getElem? hi,fun hk=>hij ?_⟩
  have e1:(l.map (·.key))[i]?=some e.key:=by simp[List.getElem?_map,hi,hk]
  have e2:(l.map (·.key))[j]?=some e.key:=by simp[List.getElem?_map,hj]
  have hlt:i<(l.map (·.key)).length:=by
   have:=(List.getElem?_eq_some_iff.1 hi).1
   simpa using this
  exact(List.getElem?_inj hlt hn).1 (e1.trans e2.symm)
 ·rintro⟨hx,hk⟩
  obtain⟨i,hi⟩:=List.mem_iff_getElem?.1 hx
  refine⟨i,fun hij=>hk ?_,hi⟩
  subst hij
  rw[hj] at hi
  injection hi with hi
  rw[hi]
theorem XL.delete {t tk m kt et:Nat} {mx kx:Operand} {ti:TI} {kk:KK} {zv v:Value} {dm:Value→Bool} {f:Value→AV} (z:AV) (hT:TOk E.P T)
  (ho:o.op=.call {callee:=.builtin .delete,args:=#[mx,kx],argTypes:=#[t,tk]}) (hg:o.guard=none) (hd:∀d,o.dst=some d→Nat.blt d st.nt=true)
  (ht:T.find t=some ti) (hkd:ti.kind=.map kt et) (hkk:keyKind T kt=some kk) (hx:st.ev mx=.mp m) (hkx:keyV (st.ev kx)=some v) (hv:kk.has v=true) (hm:st.ob m=some (.mapb kk zv dm f))
  (h:XL E ops Q rest {st with fr:=dstF st.fr o.dst,ob:=upd st.ob m (some (.mapb kk zv (fun u=>!keyEq u v&&dm u) (fun u=>bif keyEq u v then z else f u)))}) (hz:∀w G,R w G Rho.none z zv):XL E ops Q (o::rest) st:=by
 refine XL.any hg fun a w ρ hs=>?_
 obtain⟨g,es,clock,h1,h2,⟨h3,h4⟩,h5⟩:=hs.ob m _ hm
 have hk:=(hT t ti ht).kind
 rw[hkd] at hk
 have hev:a.eval mx=.map (some g):=by
  have:=hs.ev mx
  rw[hx] at this
  generalize a.eval mx=u at this
  cases this with|mp hk=>rw[h1] at hk;injection hk with hk;injection hk with hk;rw[hk]
 have hek:a.eval kx=v:=keyV_inv hkx (hs.ev kx)
 have fin:∀{es':Array MapEntry},(execOp a.eval o).run E.P w=.ok (.value (.tuple #[])) {w with heap:=w.heap.setIfInBounds g (.map es' clock)}→Go.MapKept.Stamped es' clock→(∀x,x∈es'.toList↔x∈es.toList∧x.key≠v)→
   ∃n w',(execOp a.eval o).run E.P w=.ok (.value n) w'∧∃st',Sat E st' (a.put o.dst n) w'∧XL E ops Q rest st':=by
  intro es' hr hs1 hmem
  have hset:=hs.setMap (o:=.mapb kk zv (fun u=>!keyEq u v&&dm u) (fun u=>bif keyEq u v then z else f u)) (es':=es') (clock':=clock) h1 h2 fun w' hG hh=>⟨g,es',clock,h1,hh,⟨hs1,fun e he=>h4 e ((hmem e).1 he).1⟩,(fun u hu=>by
   obtain⟨r,r1,r2,r3⟩:=h5 u hu
   cases hq:keyEq u v with
   |true=>
    have:=(keyEq_iff hu hv).1 hq
    subst this
    exact⟨none,.inl ⟨rfl,fun e he=>((hmem e).1 he).2⟩,by simp[hq],by simp only[hq,cond_true];exact hz _ _⟩
   |false=>
    have hne:u≠v:=fun e=>by rw[(keyEq_iff hu hv).2 e] at hq;cases hq
    refine⟨r,?_,by simp[hq,r2],by simp only[hq,cond_false];exact r3.tr hG _ (Le.refl _)⟩
    rcases r1 with⟨rfl,r1⟩|⟨e,he,hk1,rfl⟩
    ·exact .inl ⟨rfl,fun e he=>r1 e ((hmem e).1 he).1⟩
    ·exact .inr ⟨e,(hmem e).2 ⟨he,by rw[hk1];exact hne⟩,hk1,rfl⟩)⟩
  refine⟨_,_,hr,_,⟨ρ,?_⟩,h⟩
  cases hdd:o.dst with
  |none=>exact hset
  |some d=>exact hset.put (Nat.lt_of_succ_le (Nat.le_of_ble_eq_true (hd d hdd))) .junk
 rcases keyFind hT hkk hv h4 w with⟨q1,q2⟩|⟨j,e,q1,q2,q3⟩
 ·refine fin (es':=es) ?_ h3 fun x=>⟨fun hx=>⟨hx,q2 x hx⟩,fun hx=>hx.1⟩
  simp[execOp,ho,resolve,invoke,builtin,hev,hek,Builtin.delete_,run_underlying hk,Go.MapKept.run_getObj_map h2,keyCheck hT hkk hv,q1,Go.MapKept.run_setObj_map _ h2,Result.andThen]
 ·have hjl:j<es.size:=by
   have:=(List.getElem?_eq_some_iff.1 q2).1
   simpa using this
  have hl:(es.eraseIdxIfInBounds j).toList=es.toList.eraseIdx j:=by
   unfold Array.eraseIdxIfInBounds
   rw[dif_pos hjl,Array.toList_eraseIdx]
  refine fin (es':=es.eraseIdxIfInBounds j) ?_ (Go.MapKept.stamped_erase h3 j) fun x=>by
   rw[hl,erase_get h3.2.2 q2,q3]
  simp[execOp,ho,resolve,invoke,builtin,hev,hek,Builtin.delete_,run_underlying hk,Go.MapKept.run_getObj_map h2,keyCheck hT hkk hv,q1,Go.MapKept.run_setObj_map _ h2,Result.andThen]
end
end Go.Eng
end
section
namespace Go.Eng
open Go.Sort Go.Lib
def rowMk (e:Nat):Array Value→Obj:=fun arr=>.cells arr e (0,0)
def rowsC (e b n cap:Nat) (g:Nat→AV):Ob:=.lrec (rowMk e) b ((List.range cap).map fun i=>bif Nat.blt i n then g i else .junk)
def rowsH (b n cap:Nat):AV:=.c (.slice (some ⟨b,0,none⟩) n cap)
def famG (B:Nat):Nat→AV:=fun i=>.vec (B+i) 0
def famQ (B q t:Nat):Nat→AV:=fun i=>bif Nat.beq i t then .vec q 0 else .vec (B+i) 0
section
variable {E:Env} {st st':ST} {a:Act} {w:World} {ρ ρ':Rho} {Q:Exit→ST→Prop} {T:TE} {ops:Array Oper} {rest:List Oper} {o:Oper} {c:Code} {its:List It}
theorem rowsC_get {n cap i:Nat} {g:Nat→AV} {x:AV} (h:((List.range cap).map fun i=>bif Nat.blt i n then g i else AV.junk)[i]?=some x):i<cap∧x=(bif Nat.blt i n then g i else AV.junk):=by
 rw[List.getElem?_map,Option.map_eq_some_iff] at h
 obtain⟨j,hj,rfl⟩:=h
 have h1:=(List.getElem?_eq_some_iff.1 hj).1
 have h2:=(List.getElem?_eq_some_iff.1 hj).2
 simp at h1 h2
 subst h2
 exact⟨h1,rfl⟩
theorem blt_iff {i n:Nat}:Nat.blt i n=true↔i<n:=⟨fun h=>Nat.lt_of_succ_le (Nat.le_of_ble_eq_true h),fun h=>Nat.ble_eq_true_of_le h⟩
theorem rowsC_to {G G':Nat→Prop} {k e b n cap n':Nat} {g g':Nat→AV} (h:ObOk w G ρ k (rowsC e b n cap g)) (hk:ρ' k=some (.blk b)) (hn:n'≤n) (hr:∀i v,i<n'→R w G ρ (g i) v→R w G' ρ' (g' i) v):ObOk w G' ρ' k (rowsC e b n' cap g'):=by
 obtain⟨arr,h1,h2,h3,h4⟩:=h
 refine⟨arr,hk,h2,by simpa using h3,fun i x hx=>?_⟩
 obtain⟨hi,rfl⟩:=rowsC_get hx
 cases hb:Nat.blt i n' with
 |false=>exact .junk
 |true=>
  have hin:=blt_iff.1 hb
  refine hr i _ hin ?_
  have:=h4 i (g i) (by rw[List.getElem?_map,List.getElem?_range hi];simp[blt_iff.2 (show i<n by omega)])
  exact this
theorem SatR.reob2 (h:SatR E st a w ρ) (p:Nat→Bool) (τ:Nat→Nat) (hnt:st'.nt=st.nt) (hp:∀j,p j=true→ρ' j=ρ j)
  (hfr:∀j,R w (E.good w ρ) ρ (st'.fr j) (a.tmps.getD j undef)∧(st'.fr j).ks p=true)
  (hsub:∀j x,ρ' j=some x→∀b,x.block=some b→∃y,ρ (τ j)=some y∧y.block=some b)
  (hτ:∀j j' x x' b b',ρ' j=some x→ρ' j'=some x'→x.block=some b→x'.block=some b'→τ j=τ j'→j=j')
  (hob:(∀b,E.good w ρ b→E.good w ρ' b)→∀j o,st'.ob j=some o→ObOk w (E.good w ρ') ρ' j o)
  (hno:∀j,st'.ob j=none→ρ' j=none) (hN:∀j,j<E.N→p j=true):SatR E st' a w ρ':=by
 have h1:=SatR.reob (st:={st with fr:=st'.fr}) (st':=st') (ρ':=ρ') ⟨h.keep,h.tsz,h.dfr,h.gl,fun k=>(hfr k).1,h.ob,h.no,h.dis,h.own,h.le⟩ p τ hnt hp (fun j=>.inr ⟨AvIs.refl _,(hfr j).2⟩) hsub hτ hob hno hN
 exact h1
def keptX (B:Nat) (L:List (Nat×AV)) (k:Nat) (O:List (Nat×Ob)):Bool:=
 L.all (fun x=>x.2.ks (fun j=>smallN B j&&!Nat.beq j k))&&O.all (fun o=>o.2.ks (fun j=>smallN B j&&!Nat.beq j k))&&O.all (fun o=>smallN B o.1&&!Nat.beq o.1 k)&&smallN B k
theorem XK.rowsIn {L:List (Nat×AV)} {O:List (Nat×Ob)} {B nx nt m k s n e u2 sz d:Nat} {md:Nat→Bool} {f:Nat→List AV} (F:Nat→Nat×(Nat→List AV)) (hF:∀i,(F i).1=0) (hN:E.N=m) (hm:Nat.ble m k=true) (hmB:Nat.ble m B=true) (hk:keptX B L k O=true) (hn:0<n)
  (hf:∀i,i<n→f i=[.c (.slice none 0 0)])
  (h:∀b cap,n≤cap→cap≤maxLen→XK E (.code c::its) Q ⟨mkFr ((d,rowsH b n cap)::L),obF B u2 sz F ((k,rowsC e b n cap (famG B))::O),nx,nt,md⟩):
  XK E (.code c::its) Q (ST.of ((d,.vec k s)::L) ((k,.vec e 1 s n f)::O) nx nt md):=by
 rintro a w ⟨ρ,hs⟩
 simp only[keptX,Bool.and_eq_true,List.all_eq_true,Bool.not_eq_true'] at hk
 obtain⟨⟨⟨k1,k2⟩,k3⟩,k4⟩:=hk
 have k4:=smallN_lt k4
 have hm:=Nat.le_of_ble_eq_true hm
 have hmB:=Nat.le_of_ble_eq_true hmB
 have hob:(ST.of ((d,.vec k s)::L) ((k,.vec e 1 s n f)::O) nx nt md).ob=mkOb ((k,.vec e 1 s n f)::O):=rfl
 obtain⟨hv,xs,hg0,hown,hfl,hr⟩:=hs.ob k _ (by rw[hob,mkOb_cons,if_pos rfl])
 obtain⟨hxl,hcase⟩:=hown
 rcases hcase with⟨_,h0⟩|⟨g,cap,cur,rfl,_,hh,hnc,hmx,hsz,htake⟩
 ·omega
 let P:Nat→Bool:=fun j=>smallN B j&&!Nat.beq j k
 have hP:∀j,P j=true→j<B∧j≠k:=fun j hp=>by
  simp only[P,Bool.and_eq_true,Bool.not_eq_true'] at hp
  exact⟨smallN_lt hp.1,fun e=>by subst e;simp at hp⟩
 let ρ':Rho:=fun j=>if B≤j then some (.hdr 0 (.slice none 0 0)) else if j=k then some (.blk g) else ρ j
 have e1:∀j,P j=true→ρ' j=ρ j:=fun j hj=>by
  obtain⟨h1,h2⟩:=hP j hj
  simp only[ρ'];rw[if_neg (by omega),if_neg h2]
 have e2:∀j,B≤j→ρ' j=some (.hdr 0 (.slice none 0 0)):=fun j hj=>by simp only[ρ'];rw[if_pos hj]
 have e3:ρ' k=some (.blk g):=by simp[ρ',show ¬B≤k by omega]
 have e4:∀j,j<B→j≠k→ρ' j=ρ j:=fun j h1 h2=>by simp only[ρ'];rw[if_neg (by omega),if_neg h2]
 refine h g cap hnc hmx a w ⟨ρ',hs.reob2 P id rfl e1 (fun j=>?_) (fun j x hj b hb=>?_) (fun j j' x x' b b' _ _ _ _ h=>h) (fun hG j o ho=>?_) (fun j ho=>?_) fun j hj=>?_⟩
 ·have hfj:=hs.fr j
  show R _ _ _ (mkFr ((d,rowsH g n cap)::L) j) _∧_
  have hfj:R w (E.good w ρ) ρ (mkFr ((d,.vec k s)::L) j) (a.tmps.getD j undef):=hfj
  simp only[mkFr] at hfj ⊢
  cases hb:Nat.beq d j with
  |true=>
   rw[hb,cond_true] at hfj
   rw[cond_true]
   rw[hfj.vec_inv hg0]
   exact⟨.c,rfl⟩
  |false=>
   rw[hb,cond_false] at hfj
   rw[cond_false]
   refine⟨hfj,?_⟩
   show AV.ks P (mkFr L j)=true
   rcases mkFr_cases (L:=L) j with h1|⟨x,hx,h1⟩
   ·rw[h1];rfl
   ·rw[←h1];exact k1 x hx
 ·rcases Nat.lt_or_ge j B with hlt|hge
  ·by_cases hjk:j=k
   ·subst hjk
    rw[e3] at hj
    injection hj with hj
    subst hj
    exact⟨_,hg0,hb⟩
   ·exact⟨x,(e4 j hlt hjk)▸hj,hb⟩
  ·rw[e2 j hge] at hj;injection hj with hj;subst hj;cases hb
 ·replace ho:obF B u2 sz F ((k,rowsC e g n cap (famG B))::O) j=_:=ho
  rcases Nat.lt_or_ge j B with hlt|hge
  ·rw[obF_lt hlt,mkOb_cons] at ho
   by_cases hjk:j=k
   ·subst hjk
    rw[if_pos rfl] at ho
    injection ho with ho
    subst ho
    refine⟨cur,e3,hh,by simp;omega,fun i x hx=>?_⟩
    obtain⟨hi,rfl⟩:=rowsC_get hx
    cases hb:Nat.blt i n with
    |false=>exact .junk
    |true=>
     have hin:=blt_iff.1 hb
     rw[cond_true]
     have:=hr i 0 (.c (.slice none 0 0)) hin (by rw[hf i hin];rfl)
     have:=this.c_inv
     have hc:cur.getD i undef=.slice none 0 0:=by
      rw[←this,←htake]
      have h1:i<cur.size:=by omega
      simp[List.getD,h1,hin]
     rw[hc]
     exact .vec (e2 _ (Nat.le_add_right _ _))
   ·rw[if_neg hjk] at ho
    have hmem:=mkOb_cases ho
    exact ObOk.keepP hG (p:=P) e1 (hs.ob j o (by rw[hob,mkOb_cons,if_neg hjk];exact ho)) (by simp[P,smallN_of hlt,beq_false hjk]) (k2 _ hmem)
  ·rw[obF_ge hge] at ho
   injection ho with ho
   subst ho
   exact⟨.slice none 0 0,[],e2 j hge,⟨by simp[hF],.inl ⟨rfl,hF _⟩⟩,(fun i hi=>absurd hi (by rw[hF];omega)),fun i j x hi=>absurd hi (by rw[hF];omega)⟩
 ·replace ho:obF B u2 sz F ((k,rowsC e g n cap (famG B))::O) j=_:=ho
  rcases Nat.lt_or_ge j B with hlt|hge
  ·rw[obF_lt hlt,mkOb_cons] at ho
   by_cases hjk:j=k
   ·rw[if_pos hjk] at ho;cases ho
   ·rw[if_neg hjk] at ho
    rw[e4 j hlt hjk]
    exact hs.no j (by rw[hob,mkOb_cons,if_neg hjk];exact ho)
  ·rw[obF_ge hge] at ho;cases ho
 ·simp only[P,Bool.and_eq_true,Bool.not_eq_true']
  exact⟨smallN_of (by omega),beq_false (by omega)⟩
theorem Weak.rowsOpen {L:List (Nat×AV)} {O:List (Nat×Ob)} {B nx nt m k e sz u2 b n cap:Nat} {md:Nat→Bool} {F:Nat→Nat×(Nat→List AV)} (q t:Nat) (hN:E.N=m) (hm:Nat.ble m B=true) (hk:keptF B L k O=true)
  (hq:smallN B q=true) (hqk:Nat.beq q k=false) (hqn:Nat.ble m q=true) (hqo:(mkOb O q).isNone=true) (hL:(L.all (fun x=>x.2.ks (fun j=>!Nat.beq j q))&&O.all (fun x=>x.2.ks (fun j=>!Nat.beq j q)))=true):
  Weak E ⟨mkFr L,obF B u2 sz F ((k,rowsC e b n cap (famG B))::O),nx,nt,md⟩ ⟨mkFr L,obQ B u2 sz F q k t (rowsC e b n cap (famQ B q t)) (.vec u2 sz 0 (F t).1 (F t).2) O,nx,nt,md⟩:=by
 rintro a w ⟨ρ,h⟩
 obtain⟨k1,k2,k3,k4⟩:=keptF_ok hk
 have hq':=smallN_lt hq
 have hqk':q≠k:=fun e=>by subst e;simp at hqk
 have hqo':mkOb O q=none:=by simpa using hqo
 have hlt:∀j,j<B→(ST.mk (mkFr L) (obF B u2 sz F ((k,rowsC e b n cap (famG B))::O)) nx nt md).ob j=mkOb ((k,rowsC e b n cap (famG B))::O) j:=fun j hj=>obF_lt hj
 have hρq:ρ q=none:=h.no q (by rw[hlt q hq',mkOb_cons,if_neg hqk'];exact hqo')
 obtain⟨hv,xs,hg0,hrow⟩:=h.ob (B+t) _ (obF_ge (Nat.le_add_right _ _))
 have hrow':=hrow
 rw[Nat.add_sub_cancel_left] at hrow'
 let ρ':Rho:=fun j=>if j=q then ρ (B+t) else if j=B+t then none else ρ j
 have e0:ρ' q=ρ (B+t):=by simp[ρ']
 have e1:∀j,j≠q→j≠B+t→ρ' j=ρ j:=fun j h1 h2=>by simp only[ρ'];rw[if_neg h1,if_neg h2]
 have e2:ρ' (B+t)=none:=by simp only[ρ'];rw[if_neg (by omega)];simp
 let τ:Nat→Nat:=fun j=>if j=q then B+t else j
 have pk:∀j,(smallN B j&&!Nat.beq j q)=true→j<B∧j≠q:=fun j hj=>by
  simp only[Bool.and_eq_true,Bool.not_eq_true'] at hj
  exact⟨smallN_lt hj.1,fun e=>by subst e;simp at hj⟩
 simp only[Bool.and_eq_true,List.all_eq_true] at hL
 refine⟨ρ',h.reob (fun j=>smallN B j&&!Nat.beq j q) τ rfl (fun j hj=>e1 j (pk j hj).2 (by have:=(pk j hj).1;omega)) (fun j=>?_) (fun j x hj b hb=>?_) (fun j j' x x' b b' hj hj' _ _ ht=>?_) (fun hG j o ho=>?_) (fun j ho=>?_) fun j hj=>?_⟩
 ·rcases mkFr_cases (L:=L) j with h1|⟨x,hx,h1⟩
  ·exact .inl h1
  ·exact .inr ⟨AvIs.refl _,by show AV.ks _ (mkFr L j)=true;rw[←h1];exact ks_two (k1 x hx) (hL.1 x hx)⟩
 ·by_cases h1:j=q
  ·subst h1;exact⟨x,by simp only[τ,if_true];rw[←e0];exact hj,hb⟩
  ·by_cases h2:j=B+t
   ·subst h2;rw[e2] at hj;cases hj
   ·exact⟨x,by simp only[τ];rw[if_neg h1,←e1 j h1 h2];exact hj,hb⟩
 ·simp only[τ] at ht
  by_cases h1:j=q<;>by_cases h2:j'=q
  ·rw[h1,h2]
  ·rw[if_pos h1,if_neg h2] at ht;rw[←ht,e2] at hj';cases hj'
  ·rw[if_neg h1,if_pos h2] at ht;rw[ht,e2] at hj;cases hj
  ·rw[if_neg h1,if_neg h2] at ht;exact ht
 ·simp only[obQ] at ho
  rcases Nat.lt_or_ge j B with hj|hj
  ·rw[ble_false hj,cond_false] at ho
   by_cases h1:j=q
   ·subst h1
    rw[show Nat.beq j j=true by simp,cond_true] at ho
    injection ho with ho
    subst ho
    refine⟨hv,xs,e0.trans hg0,hrow'.1,hrow'.2.1,fun i jj x hi hx=>(hrow'.2.2 i jj x hi hx).tr (fun b hb=>⟨hG b hb,rfl⟩) _ (Le.refl _)⟩
   ·rw[beq_false h1,cond_false] at ho
    by_cases h2:j=k
    ·subst h2
     rw[show Nat.beq j j=true by simp,cond_true] at ho
     injection ho with ho
     subst ho
     have hold:=h.ob j (rowsC e b n cap (famG B)) (by rw[hlt j hj,mkOb_cons,if_pos rfl])
     have hkb:ρ j=some (.blk b):=by obtain⟨arr,h1,_⟩:=hold;exact h1
     refine rowsC_to hold ((e1 j h1 (by omega)).trans hkb) (Nat.le_refl _) fun i v hi hr=>?_
     unfold famQ
     unfold famG at hr
     cases hit:Nat.beq i t with
     |true=>
      have:=Nat.eq_of_beq_eq_true hit
      subst this
      rw[cond_true,hr.vec_inv hg0]
      exact .vec (e0.trans hg0)
     |false=>
      have hne:i≠t:=fun e=>by subst e;simp at hit
      rw[cond_false]
      obtain⟨hv1,xs1,hg1,_⟩:=h.ob (B+i) _ (obF_ge (Nat.le_add_right _ _))
      rw[hr.vec_inv hg1]
      exact .vec ((e1 _ (by omega) (by omega)).trans hg1)
    ·rw[beq_false h2,cond_false] at ho
     have hmem:=mkOb_cases ho
     have hold:=h.ob j o (by rw[hlt j hj,mkOb_cons,if_neg h2];exact ho)
     exact ObOk.keepP hG (fun i hi=>e1 i (pk i hi).2 (by have:=(pk i hi).1;omega)) hold (by simp only[Bool.and_eq_true,Bool.not_eq_true'];exact⟨smallN_of hj,beq_false h1⟩) (obks_two (k2 _ hmem) (hL.2 _ hmem))
  ·rw[Nat.ble_eq_true_of_le hj,cond_true] at ho
   by_cases h1:j=B+t
   ·subst h1;simp at ho
   ·rw[beq_false h1,cond_false] at ho
    injection ho with ho
    subst ho
    obtain⟨hv1,xs1,hg1,q1,q2,q3⟩:=h.ob j _ (obF_ge hj)
    exact⟨hv1,xs1,(e1 j (by omega) h1).trans hg1,q1,q2,fun i jj x hi hx=>(q3 i jj x hi hx).tr (fun b hb=>⟨hG b hb,rfl⟩) _ (Le.refl _)⟩
 ·simp only[obQ] at ho
  rcases Nat.lt_or_ge j B with hj|hj
  ·rw[ble_false hj,cond_false] at ho
   by_cases h1:j=q
   ·subst h1;simp at ho
   ·rw[beq_false h1,cond_false] at ho
    by_cases h2:j=k
    ·subst h2;simp at ho
    ·rw[beq_false h2,cond_false] at ho
     rw[e1 j h1 (by omega)]
     exact h.no j (by rw[hlt j hj,mkOb_cons,if_neg h2];exact ho)
  ·rw[Nat.ble_eq_true_of_le hj,cond_true] at ho
   by_cases h1:j=B+t
   ·subst h1;exact e2
   ·rw[beq_false h1,cond_false] at ho;cases ho
 ·have h1:=Nat.le_of_ble_eq_true hqn
  have h2:=Nat.le_of_ble_eq_true hm
  simp only[Bool.and_eq_true,Bool.not_eq_true']
  exact⟨smallN_of (by omega),beq_false (by omega)⟩
theorem Weak.rowsClose {L:List (Nat×AV)} {O:List (Nat×Ob)} {B nx nt m k e u2 sz b n cap s m2:Nat} {md:Nat→Bool} {F:Nat→Nat×(Nat→List AV)} {f:Nat→List AV} {g2:Nat→AV} (q t:Nat) (F':Nat→Nat×(Nat→List AV))
  (hN:E.N=m) (hnt:nt=st.nt) (hk:keptC B L k q m O=true) (hL:FrIs st L) (hO:ObIs st O) (hq:st.ob q=some (.vec u2 sz s m2 f)) (hm:st.ob k=some (rowsC e b n cap g2))
  (hbig:∀j,B≤j→st.ob j=(bif Nat.beq j (B+t) then none else some (.vec u2 sz 0 (F (j-B)).1 (F (j-B)).2)))
  (hg2:∀i,i<n→g2 i=bif Nat.beq i t then .vec q s else .vec (B+i) 0) (hF1:(F' t).1=m2) (hF2:∀i,i<m2→(F' t).2 i=f i) (hF:∀j,j≠t→F' j=F j):
  Weak E st ⟨mkFr L,obF B u2 sz F' ((k,rowsC e b n cap (famG B))::O),nx,nt,md⟩:=by
 rintro a w ⟨ρ,h⟩
 simp only[keptC,Bool.and_eq_true,List.all_eq_true,Bool.not_eq_true'] at hk
 obtain⟨⟨⟨⟨k1,k2⟩,k3,k4⟩,⟨k5,k6⟩,k7⟩,k8,k9⟩:=hk
 have k4:=smallN_lt k4
 have k7:=smallN_lt k7
 have k5:mkOb O q=none:=by simpa using k5
 have k6:q≠k:=fun e=>by subst e;simp at k6
 have k9:=Nat.le_of_ble_eq_true k9
 obtain⟨hv,xs,hg0,hrow⟩:=h.ob q _ hq
 let P:Nat→Bool:=fun j=>smallN B j&&(Nat.beq j k||(mkOb O j).isSome)
 have hPo:∀j,j<B→P j=false→mkOb O j=none∧j≠k:=fun j hj hp=>by
  have hs:=smallN_of hj
  simp only[P,hs,Bool.true_and,Bool.or_eq_false_iff] at hp
  exact⟨by simpa using hp.2,fun e=>by subst e;simp at hp⟩
 have hP:∀j,P j=true→j<B∧(j=k∨(mkOb O j).isSome=true):=fun j hp=>by
  simp only[P,Bool.and_eq_true,Bool.or_eq_true] at hp
  exact⟨smallN_lt hp.1,hp.2.imp Nat.eq_of_beq_eq_true id⟩
 have hPq:P q=false:=by
  cases hp:P q with
  |false=>rfl
  |true=>rcases (hP q hp).2 with h1|h1
         ·exact absurd h1 k6
         ·rw[k5] at h1;cases h1
 let ρ':Rho:=fun j=>if P j=true then ρ j else if j=B+t then some (.hdr 0 hv) else if j<B then none else ρ j
 have e1:∀j,P j=true→ρ' j=ρ j:=fun j hj=>by simp[ρ',hj]
 have hPB:∀j,B≤j→P j=false:=fun j hj=>by
  cases hp:P j with
  |false=>rfl
  |true=>have:=(hP j hp).1;omega
 have e2:ρ' (B+t)=some (.hdr 0 hv):=by simp[ρ',hPB (B+t) (Nat.le_add_right _ _)]
 have e3:∀j,B≤j→j≠B+t→ρ' j=ρ j:=fun j h1 h2=>by
  simp only[ρ',hPB j h1,if_neg h2,Bool.false_eq_true,if_false]
  rw[if_neg (by omega)]
 have e4:∀j,j<B→P j=false→ρ' j=none:=fun j h1 h2=>by
  simp only[ρ',h2,Bool.false_eq_true,if_false]
  rw[if_neg (by omega),if_pos h1]
 let τ:Nat→Nat:=fun j=>if j=B+t then q else j
 have hcase:∀j x,ρ' j=some x→(j=B+t∧x=.hdr 0 hv)∨(j≠B+t∧j≠q∧ρ j=some x):=by
  intro j x hx
  by_cases h1:j=B+t
  ·subst h1;rw[e2] at hx;injection hx with hx;exact .inl ⟨rfl,hx.symm⟩
  ·refine .inr ⟨h1,fun e=>?_,?_⟩
   ·subst e;rw[e4 j k7 hPq] at hx;cases hx
   ·cases hp:P j with
    |true=>rw[e1 j hp] at hx;exact hx
    |false=>
     rcases Nat.lt_or_ge j B with hj|hj
     ·rw[e4 j hj hp] at hx;cases hx
     ·rw[e3 j hj h1] at hx;exact hx
 refine⟨ρ',h.reob P τ hnt e1 (fun j=>?_) (fun j x hj b hb=>?_) (fun j j' x x' b b' hj hj' _ _ ht=>?_) (fun hG j o ho=>?_) (fun j ho=>?_) fun j hj=>?_⟩
 ·rcases mkFr_or hL j with h1|⟨h1,x,hx,h2⟩
  ·exact .inl h1
  ·exact .inr ⟨h1,by show AV.ks P (mkFr L j)=true;rw[←h2];exact k1 x hx⟩
 ·rcases hcase j x hj with⟨rfl,rfl⟩|⟨h1,h2,h3⟩
  ·exact⟨.hdr s hv,by simp only[τ,if_true];exact hg0,hb⟩
  ·exact⟨x,by simp only[τ,if_neg h1];exact h3,hb⟩
 ·simp only[τ] at ht
  rcases hcase j x hj with⟨h1,_⟩|⟨h1,h1',_⟩<;>rcases hcase j' x' hj' with⟨h2,_⟩|⟨h2,h2',_⟩
  ·rw[h1,h2]
  ·rw[if_pos h1,if_neg h2] at ht;exact absurd ht.symm h2'
  ·rw[if_neg h1,if_pos h2] at ht;exact absurd ht h1'
  ·rw[if_neg h1,if_neg h2] at ht;exact ht
 ·replace ho:obF B u2 sz F' ((k,rowsC e b n cap (famG B))::O) j=_:=ho
  rcases Nat.lt_or_ge j B with hj|hj
  ·rw[obF_lt hj,mkOb_cons] at ho
   by_cases hjk:j=k
   ·subst hjk
    rw[if_pos rfl] at ho
    injection ho with ho
    subst ho
    have hPk:P j=true:=by simp[P,smallN_of hj]
    have hold:=h.ob j _ hm
    have hkb:ρ j=some (.blk b):=by obtain⟨arr,h1,_⟩:=hold;exact h1
    refine rowsC_to hold ((e1 j hPk).trans hkb) (Nat.le_refl _) fun i v hi hr=>?_
    rw[hg2 i hi] at hr
    unfold famG
    cases hit:Nat.beq i t with
    |true=>
     have:=Nat.eq_of_beq_eq_true hit
     subst this
     rw[hit,cond_true] at hr
     rw[hr.vec_inv hg0]
     exact .vec e2
    |false=>
     have hne:i≠t:=fun e=>by subst e;simp at hit
     rw[hit,cond_false] at hr
     obtain⟨hv1,xs1,hg1,_⟩:=h.ob (B+i) _ (by rw[hbig _ (Nat.le_add_right _ _),beq_false (by omega),cond_false])
     rw[hr.vec_inv hg1]
     exact .vec ((e3 _ (Nat.le_add_right _ _) (by omega)).trans hg1)
   ·rw[if_neg hjk] at ho
    have hmem:=mkOb_cases ho
    have hPj:P j=true:=by simp[P,smallN_of hj,ho]
    obtain⟨h1,_⟩:=mkOb_some hO j o ho
    cases hst:st.ob j with
    |none=>rw[hst] at h1;exact h1.elim
    |some o1=>
     rw[hst] at h1
     exact ObOk.keepP hG e1 (h1.ok (h.ob j o1 hst)) hPj (k2 _ hmem)
  ·rw[obF_ge hj] at ho
   injection ho with ho
   subst ho
   by_cases h1:j=B+t
   ·subst h1
    rw[Nat.add_sub_cancel_left,hF1]
    refine⟨hv,xs,e2,hrow.1,fun i hi=>by rw[hF2 i hi];exact hrow.2.1 i hi,fun i jj x hi hx=>(hrow.2.2 i jj x hi (by rw[←hF2 i hi];exact hx)).tr (fun b hb=>⟨hG b hb,rfl⟩) _ (Le.refl _)⟩
   ·have h2:j-B≠t:=by omega
    rw[hF _ h2]
    obtain⟨hv1,xs1,hg1,q1,q2,q3⟩:=h.ob j _ (by rw[hbig j hj,beq_false h1,cond_false])
    exact⟨hv1,xs1,(e3 j hj h1).trans hg1,q1,q2,fun i jj x hi hx=>(q3 i jj x hi hx).tr (fun b hb=>⟨hG b hb,rfl⟩) _ (Le.refl _)⟩
 ·replace ho:obF B u2 sz F' ((k,rowsC e b n cap (famG B))::O) j=_:=ho
  rcases Nat.lt_or_ge j B with hj|hj
  ·rw[obF_lt hj,mkOb_cons] at ho
   by_cases hjk:j=k
   ·rw[if_pos hjk] at ho;cases ho
   ·rw[if_neg hjk] at ho
    refine e4 j hj ?_
    simp[P,ho,beq_false hjk]
  ·rw[obF_ge hj] at ho;cases ho
 ·have:=k8 j (List.mem_range.2 (by omega))
  have h2:=smallN_of (B:=B) (j:=j) (by omega)
  simp only[P,h2,Bool.true_and]
  simpa using this
theorem Weak.rowsOf {L:List (Nat×AV)} {O:List (Nat×Ob)} {B nx nt m k e u2 sz b n cap n':Nat} {md:Nat→Bool} {F:Nat→Nat×(Nat→List AV)} {g2:Nat→AV}
  (hN:E.N=m) (hnt:nt=st.nt) (hk:keptD B L k m O=true) (hL:FrIs st L) (hO:ObIs st O) (hm:st.ob k=some (rowsC e b n cap g2)) (hn:n'≤n) (hg2:∀i,i<n'→g2 i=famG B i)
  (hbig:∀j,B≤j→st.ob j=some (.vec u2 sz 0 (F (j-B)).1 (F (j-B)).2)):
  Weak E st ⟨mkFr L,obF B u2 sz F ((k,rowsC e b n' cap (famG B))::O),nx,nt,md⟩:=by
 rintro a w ⟨ρ,h⟩
 simp only[keptD,Bool.and_eq_true,List.all_eq_true,Bool.not_eq_true'] at hk
 obtain⟨⟨⟨k1,k2⟩,k3,k4⟩,k8,k9⟩:=hk
 have k4:=smallN_lt k4
 have k9:=Nat.le_of_ble_eq_true k9
 let P:Nat→Bool:=fun j=>smallN B j&&(Nat.beq j k||(mkOb O j).isSome)
 have hP:∀j,P j=true→j<B∧(j=k∨(mkOb O j).isSome=true):=fun j hp=>by
  simp only[P,Bool.and_eq_true,Bool.or_eq_true] at hp
  exact⟨smallN_lt hp.1,hp.2.imp Nat.eq_of_beq_eq_true id⟩
 have hPB:∀j,B≤j→P j=false:=fun j hj=>by
  cases hp:P j with
  |false=>rfl
  |true=>have:=(hP j hp).1;omega
 let ρ':Rho:=fun j=>if P j=true then ρ j else if j<B then none else ρ j
 have e1:∀j,P j=true→ρ' j=ρ j:=fun j hj=>by simp[ρ',hj]
 have e3:∀j,B≤j→ρ' j=ρ j:=fun j h1=>by
  simp only[ρ',hPB j h1,Bool.false_eq_true,if_false]
  rw[if_neg (by omega)]
 have e4:∀j,j<B→P j=false→ρ' j=none:=fun j h1 h2=>by
  simp only[ρ',h2,Bool.false_eq_true,if_false]
  rw[if_pos h1]
 have hcase:∀j x,ρ' j=some x→ρ j=some x:=by
  intro j x hx
  cases hp:P j with
  |true=>rw[e1 j hp] at hx;exact hx
  |false=>
   rcases Nat.lt_or_ge j B with hj|hj
   ·rw[e4 j hj hp] at hx;cases hx
   ·rw[e3 j hj] at hx;exact hx
 refine⟨ρ',h.reob P id hnt e1 (fun j=>?_) (fun j x hj b hb=>⟨x,hcase j x hj,hb⟩) (fun j j' x x' b b' _ _ _ _ ht=>ht) (fun hG j o ho=>?_) (fun j ho=>?_) fun j hj=>?_⟩
 ·rcases mkFr_or hL j with h1|⟨h1,x,hx,h2⟩
  ·exact .inl h1
  ·exact .inr ⟨h1,by show AV.ks P (mkFr L j)=true;rw[←h2];exact k1 x hx⟩
 ·replace ho:obF B u2 sz F ((k,rowsC e b n' cap (famG B))::O) j=_:=ho
  rcases Nat.lt_or_ge j B with hj|hj
  ·rw[obF_lt hj,mkOb_cons] at ho
   by_cases hjk:j=k
   ·subst hjk
    rw[if_pos rfl] at ho
    injection ho with ho
    subst ho
    have hPk:P j=true:=by simp[P,smallN_of hj]
    have hold:=h.ob j _ hm
    have hkb:ρ j=some (.blk b):=by obtain⟨arr,h1,_⟩:=hold;exact h1
    refine rowsC_to hold ((e1 j hPk).trans hkb) hn fun i v hi hr=>?_
    rw[hg2 i hi] at hr
    unfold famG at hr ⊢
    obtain⟨hv1,xs1,hg1,_⟩:=h.ob (B+i) _ (hbig _ (Nat.le_add_right _ _))
    rw[hr.vec_inv hg1]
    exact .vec ((e3 _ (Nat.le_add_right _ _)).trans hg1)
   ·rw[if_neg hjk] at ho
    have hmem:=mkOb_cases ho
    have hPj:P j=true:=by simp[P,smallN_of hj,ho]
    obtain⟨h1,_⟩:=mkOb_some hO j o ho
    cases hst:st.ob j with
    |none=>rw[hst] at h1;exact h1.elim
    |some o1=>
     rw[hst] at h1
     exact ObOk.keepP hG e1 (h1.ok (h.ob j o1 hst)) hPj (k2 _ hmem)
  ·rw[obF_ge hj] at ho
   injection ho with ho
   subst ho
   obtain⟨hv1,xs1,hg1,q1,q2,q3⟩:=h.ob j _ (hbig j hj)
   exact⟨hv1,xs1,(e3 j hj).trans hg1,q1,q2,fun i jj x hi hx=>(q3 i jj x hi hx).tr (fun b hb=>⟨hG b hb,rfl⟩) _ (Le.refl _)⟩
 ·replace ho:obF B u2 sz F ((k,rowsC e b n' cap (famG B))::O) j=_:=ho
  rcases Nat.lt_or_ge j B with hj|hj
  ·rw[obF_lt hj,mkOb_cons] at ho
   by_cases hjk:j=k
   ·rw[if_pos hjk] at ho;cases ho
   ·rw[if_neg hjk] at ho
    refine e4 j hj ?_
    simp[P,ho,beq_false hjk]
  ·rw[obF_ge hj] at ho;cases ho
 ·have:=k8 j (List.mem_range.2 (by omega))
  have h2:=smallN_of (B:=B) (j:=j) (by omega)
  simp only[P,h2,Bool.true_and]
  simpa using this
theorem Weak.rowsOut {L:List (Nat×AV)} {O:List (Nat×Ob)} {B nx nt m k e u2 sz b n cap d:Nat} {md:Nat→Bool} {F:Nat→Nat×(Nat→List AV)} (hN:E.N=m) (hm:Nat.ble m k=true) (hmB:Nat.ble m B=true) (hk:keptX B L k O=true) (hnc:n≤cap) (hcm:cap≤maxLen):
  Weak E ⟨mkFr ((d,rowsH b n cap)::L),obF B u2 sz F ((k,rowsC e b n cap (famG B))::O),nx,nt,md⟩ (ST.of ((d,.rs 1 n (fun i=>[.rs sz (F i).1 (F i).2]))::L) O nx nt md):=by
 rintro a w ⟨ρ,h⟩
 simp only[keptX,Bool.and_eq_true,List.all_eq_true,Bool.not_eq_true'] at hk
 obtain⟨⟨⟨k1,k2⟩,k3⟩,k4⟩:=hk
 have k4:=smallN_lt k4
 have hm:=Nat.le_of_ble_eq_true hm
 have hmB:=Nat.le_of_ble_eq_true hmB
 have hob:(ST.of ((d,.rs 1 n (fun i=>[.rs sz (F i).1 (F i).2]))::L) O nx nt md).ob=mkOb O:=rfl
 have hlt:∀j,j<B→(ST.mk (mkFr ((d,rowsH b n cap)::L)) (obF B u2 sz F ((k,rowsC e b n cap (famG B))::O)) nx nt md).ob j=mkOb ((k,rowsC e b n cap (famG B))::O) j:=fun j hj=>obF_lt hj
 have hOk:mkOb O k=none:=by
  cases hq:mkOb O k with
  |none=>rfl
  |some o=>have:=(k3 _ (mkOb_cases hq)).2;simp at this
 have hObig:∀j,B≤j→mkOb O j=none:=fun j hj=>by
  cases hq:mkOb O j with
  |none=>rfl
  |some o=>have:=smallN_lt (k3 _ (mkOb_cases hq)).1;simp only at this;omega
 let P:Nat→Bool:=fun j=>smallN B j&&!Nat.beq j k
 have hP:∀j,P j=true→j<B∧j≠k:=fun j hp=>by
  simp only[P,Bool.and_eq_true,Bool.not_eq_true'] at hp
  exact⟨smallN_lt hp.1,fun e=>by subst e;simp at hp⟩
 let ρ':Rho:=fun j=>if j<B∧j≠k then ρ j else none
 have e1:∀j,P j=true→ρ' j=ρ j:=fun j hj=>by simp[ρ',hP j hj]
 have e2':∀j x,ρ' j=some x→(j<B∧j≠k)∧ρ j=some x:=fun j x hx=>by
  by_cases hj:j<B∧j≠k
  ·exact⟨hj,by simpa[ρ',hj] using hx⟩
  ·simp[ρ',hj] at hx
 have hG:∀b,E.good w ρ b→E.good w ρ' b:=fun b ⟨h0,hlt,hno⟩=>⟨h0,hlt,fun j y hj hy=>hno j y (e2' j y hj).2 hy⟩
 obtain⟨arr,c1,c2,c3,c4⟩:=h.ob k (rowsC e b n cap (famG B)) (by rw[hlt k k4,mkOb_cons,if_pos rfl])
 have hcl:arr.size=cap:=by simpa using c3
 have hnew:∀v,v=.slice (some ⟨b,0,none⟩) n cap→R w (E.good w ρ') ρ' (.rs 1 n (fun i=>[.rs sz (F i).1 (F i).2])) v:=by
  rintro v rfl
  refine .rs (fun i _=>arr.getD i undef) hnc hcm (fun _=>⟨_,rfl,⟨.inr (h.own k _ b c1 rfl),h.lt c1 rfl,fun i x hi hx=>?_⟩,fun i j hi hj=>?_⟩) (fun i hi=>rfl) fun i j x hi hx=>?_
  ·obtain⟨hi1,hi2⟩:=e2' i x hi
   exact hi1.2 (h.dis i k x _ b hi2 c1 hx rfl)
  ·have:j=0:=by omega
   subst this
   have hi':i<arr.size:=by omega
   rw[Addr.add_lit,Nat.zero_add,Nat.mul_one,Nat.add_zero]
   simp only[World.cell?,c2,rowMk]
   simp[List.getD,hi']
  ·cases j with
   |succ j=>simp at hx
   |zero=>
    injection hx with hx
    subst hx
    have:=c4 i (.vec (B+i) 0) (by rw[List.getElem?_map,List.getElem?_range (show i<cap by omega)];simp[blt_iff.2 hi,famG])
    have h5:=row_frozen h (j:=B+i) (s:=0) (obF_ge (Nat.le_add_right _ _)) this hG (fun b' hv1 hρ hb i' x hi' hx=>by
     obtain⟨hi1,hi2⟩:=e2' i' x hi'
     have:=h.dis i' (B+i) x _ b' hi2 hρ hx (by rw[RV.block];exact hb)
     omega) (ρ1:=Rho.none)
    rwa[Nat.add_sub_cancel_left] at h5
 refine⟨ρ',?_⟩
 have h1:SatR E {(ST.of ((d,.rs 1 n (fun i=>[.rs sz (F i).1 (F i).2]))::L) O nx nt md) with fr:=fun j=>bif Nat.beq d j then .junk else mkFr L j} a w ρ':=by
  refine h.reob P id rfl e1 (fun j=>?_) (fun j x hj b hb=>⟨x,(e2' j x hj).2,hb⟩) (fun j j' x x' b b' _ _ _ _ h=>h) (fun _ j o ho=>?_) (fun j ho=>?_) fun j hj=>?_
  ·show _=_∨_
   dsimp only
   cases hb:Nat.beq d j with
   |true=>exact .inl rfl
   |false=>
    rcases mkFr_cases (L:=L) j with h1|⟨x,hx,h1⟩
    ·exact .inl h1
    ·refine .inr ⟨?_,by show AV.ks P (mkFr L j)=true;rw[←h1];exact k1 x hx⟩
     show AvIs (mkFr ((d,rowsH b n cap)::L) j) _
     simp only[mkFr,hb,cond_false]
     exact AvIs.refl _
  ·replace ho:mkOb O j=some o:=ho
   have hmem:=mkOb_cases ho
   obtain⟨q1,q2⟩:=k3 _ hmem
   have hjB:=smallN_lt q1
   have hjk:j≠k:=fun e=>by subst e;rw[hOk] at ho;cases ho
   exact ObOk.keepP hG (p:=P) e1 (h.ob j o (by rw[hlt j hjB,mkOb_cons,if_neg hjk];exact ho)) (by simp[P,smallN_of hjB,beq_false hjk]) (k2 _ hmem)
  ·replace ho:mkOb O j=none:=ho
   by_cases hj:j<B∧j≠k
   ·simp only[ρ',hj]
    rw[if_pos (by simp[hj])]
    exact h.no j (by rw[hlt j hj.1,mkOb_cons,if_neg hj.2];exact ho)
   ·simp[ρ',hj]
  ·simp only[P,Bool.and_eq_true,Bool.not_eq_true']
   exact⟨smallN_of (by omega),beq_false (by omega)⟩
 refine⟨h1.keep,h1.tsz,h1.dfr,h1.gl,fun j=>?_,h1.ob,h1.no,h1.dis,h1.own,h1.le⟩
 have hj:=h1.fr j
 show R _ _ _ (mkFr ((d,.rs 1 n (fun i=>[.rs sz (F i).1 (F i).2]))::L) j) _
 dsimp only at hj
 simp only[mkFr]
 cases hb:Nat.beq d j with
 |true=>
  rw[cond_true]
  have h9:=h.fr j
  have h9:R w (E.good w ρ) ρ (mkFr ((d,rowsH b n cap)::L) j) (a.tmps.getD j undef):=h9
  simp only[mkFr,hb,cond_true] at h9
  exact hnew _ h9.c_inv
 |false=>
  rw[cond_false]
  rw[hb,cond_false] at hj
  exact hj
end
end Go.Eng
end
section
namespace Go.Eng
open Go.Sort Go.Lib
section
variable {E:Env} {st:ST} {a:Act} {w:World} {ρ:Rho} {Q:Exit→ST→Prop} {T:TE} {ops:Array Oper} {rest:List Oper} {o:Oper}
theorem Local.val (hg:o.guard=none) (hd:dstOk st o=true) {K:List Nat} {x:AV} (h:∀s',agree (fpK ops.toList o K) st s'→(∀y∈o.op.operands,s'.ev y=st.ev y)→∀a w ρ,SatR E s' a w ρ→∃z,(execOp a.eval o).run E.P w=.ok (.value z) w∧R w (E.good w ρ) ρ x z):Local E ops o st ⟨x,none⟩ (fpK ops.toList o K):=by
 intro s' ha a w ⟨ρ,hs⟩ Q
 rw[if_pos (by simp[Region.wanted,hg])]
 obtain⟨z,h1,h2⟩:=h s' ha (ev_agreeK ha) a w ρ hs
 refine wpIn_run h1 (fun _ e=>by cases e) ?_
 have hd':dstOk s' o=true:=by
  have:=ha.2.1
  simpa[dstOk,this] using hd
 exact⟨ρ,SatR.put_app (eff:=⟨x,none⟩) (dst:=o.dst) hs (dstOk_lt hd') h2⟩
theorem Local.rowsAt (hT:TOk E.P T) {t e b n cap:Nat} {x i:Operand} {kk:IntKind} {z:Int} {ti te:TI} (ho:o.op=.indexAddr t x i) (hg:o.guard=none) (hd:dstOk st o=true)
  (ht:T.find t=some ti) (hk:ti.kind=.slice e) (hte:T.find e=some te) (hsz:te.size=1) (hx:st.ev x=rowsH b n cap) (hi:st.ev i=.c (.int kk z)) (hz:0≤z∧z<(n:Int)):Local E ops o st ⟨.c (.pointer (some ⟨b,z.toNat,.none⟩)),none⟩ (fpK ops.toList o []):=by
 refine Local.val hg hd fun s' _ hev a w ρ hs=>?_
 have ops2:∀y,y=x∨y=i→y∈o.op.operands:=fun y hy=>by rw[ho];rcases hy with rfl|rfl<;>simp[Op.operands]
 have e1:a.eval x=.slice (some ⟨b,0,.none⟩) n cap:=by have:=hs.ev x;rw[hev x (ops2 x (.inl rfl)),hx] at this;exact this.c_inv
 have e2:a.eval i=.int kk z:=by have:=hs.ev i;rw[hev i (ops2 i (.inr rfl)),hi] at this;exact this.c_inv
 have hkd:=(hT t ti ht).kind
 rw[hk] at hkd
 simp only[KindOk] at hkd
 have hso:=(hT e te hte).run_sizeOf w
 refine⟨_,?_,.c⟩
 simp[execOp,ho,e1,e2,Instr.indexAt,asIntOf_int,run_underlying hkd,hz.1,hz.2,hso,hsz,Addr.add_lit,Result.andThen]
theorem Local.rowsLoad (hT:TOk E.P T) {t e b n cap j k:Nat} {x:Operand} {g:Nat→AV} {y:AV} {ti:TI} (ho:o.op=.load t x) (hg:o.guard=none) (hd:dstOk st o=true)
  (ht:T.find t=some ti) (hk:ti.kind.agg=false) (hx:st.ev x=.c (.pointer (some ⟨b,j,.none⟩))) (hm:st.ob k=some (rowsC e b n cap g)) (hj:j<n∧n≤cap) (hy:g j=y):Local E ops o st ⟨y,none⟩ (fpK ops.toList o [k]):=by
 refine Local.val hg hd fun s' ha hev a w ρ hs=>?_
 have e1:a.eval x=.pointer (some ⟨b,j,.none⟩):=by have:=hs.ev x;rw[hev x (by rw[ho];simp[Op.operands]),hx] at this;exact this.c_inv
 have hm':s'.ob k=some (rowsC e b n cap g):=(ha.2.2.2.2 k List.mem_cons_self).trans hm
 obtain⟨arr,c1,c2,c3,c4⟩:=hs.ob k _ hm'
 have hcl:arr.size=cap:=by simpa using c3
 have hc:Cells w (E.good w ρ) ρ ⟨b,0,none⟩ ((List.range cap).map fun i=>bif Nat.blt i n then g i else AV.junk):=by
  intro i x hx
  have hi:i<arr.size:=by have:=(List.getElem?_eq_some_iff.1 hx).1;simp at this;omega
  refine⟨arr.getD i undef,?_,c4 i x hx⟩
  rw[Addr.add_lit,Nat.zero_add]
  simp only[World.cell?,c2,rowMk]
  simp[List.getD,hi]
 obtain⟨z,h1,h2⟩:=run_loadVar (P:=E.P) (hT t ti ht) hc (off:=j) (x:=y) (by
  unfold cellsAt
  rw[hk,cond_false,List.getElem?_map,List.getElem?_range (show j<cap by omega)]
  simp[blt_iff.2 hj.1,hy])
 rw[Addr.add_lit,Nat.zero_add] at h1
 exact⟨z,by simp[execOp,ho,e1,Instr.loadAt,Instr.sureAddr,h1,Result.andThen],h2⟩
theorem Local.rowsStore (hT:TOk E.P T) {t e b n cap j k q s e2 sz m:Nat} {x y:Operand} {g:Nat→AV} {f:Nat→List AV} {ti:TI} (ho:o.op=.store t x y) (hg:o.guard=none) (hd:o.dst=none)
  (ht:T.find t=some ti) (hts:ti.size=1) (hx:st.ev x=.c (.pointer (some ⟨b,j,.none⟩))) (hy:st.ev y=.vec q s) (hq:st.ob q=some (.vec e2 sz s m f)) (hm:st.ob k=some (rowsC e b n cap g)) (hj:j<n∧n≤cap):
  Local E ops o st ⟨.junk,some (k,rowsC e b n cap (fun i=>bif Nat.beq i j then .vec q s else g i))⟩ (fpK ops.toList o [k,q]):=by
 intro s' ha a w ⟨ρ,hs⟩ Q
 have hev:=ev_agreeK ha
 rw[if_pos (by simp[Region.wanted,hg])]
 have e1:a.eval x=.pointer (some ⟨b,j,.none⟩):=by have:=hs.ev x;rw[hev x (by rw[ho];simp[Op.operands]),hx] at this;exact this.c_inv
 have r2:R w (E.good w ρ) ρ (.vec q s) (a.eval y):=by have:=hs.ev y;rw[hev y (by rw[ho];simp[Op.operands]),hy] at this;exact this
 have hm':s'.ob k=some (rowsC e b n cap g):=(ha.2.2.2.2 k List.mem_cons_self).trans hm
 have hq':s'.ob q=some (.vec e2 sz s m f):=(ha.2.2.2.2 q (List.mem_cons_of_mem _ List.mem_cons_self)).trans hq
 obtain⟨arr,c1,c2,c3,c4⟩:=hs.ob k _ hm'
 have hcl:arr.size=cap:=by simpa using c3
 generalize hv:a.eval y=v at r2
 obtain⟨hcs,hcr⟩:=hs.cells (l:=[.vec q s]) (by simp[avCells,live,hq']) r2
 have hone:∀i,i<v.cells.size→(v.cells.getD i undef).oneCell'=true:=fun i hi=>by
  have:i=0:=by rw[hcs] at hi;simpa using hi
  subst this
  exact hs.oneCell (x:=.vec q s) (by simp[oneAV,live,hq']) (hcr 0 _ rfl)
 obtain⟨cur',h1,h2,h3⟩:=run_storeVar_at (E:=E) (w:=w) hT ht (v:=v) (by rw[hcs,hts];rfl) hone (g:=b) (off:=j) (cur:=arr) (e:=e) c2 (by rw[hcs,hcl];show j+1≤cap;omega)
 have hu:upd ρ k (some (.blk b))=ρ:=by
  funext j
  by_cases hj:j=k
  ·subst hj;rw[upd_same,c1]
  ·rw[upd_other _ _ hj]
 have:=hs.turn (k:=k) (x:=.blk b) (o:=rowsC e b n cap (fun i=>bif Nat.beq i j then .vec q s else g i)) (w':=w.setRow b cur') (.inr (.inl c1))
  ⟨rfl,rfl,rfl,by simp,fun b' _ hb=>setRow_other w b b' _ fun e=>hb (by rw[c1,e];rfl)⟩ (Nat.le_refl _) (fun b hb=>.inl (by rw[c1];exact hb)) fun hG hl=>by
   rw[hu] at hG hl ⊢
   refine⟨cur',c1,setRow_heap w b arr cur' e (0,0) c2,by simp;omega,fun i z hz=>?_⟩
   obtain⟨hi,rfl⟩:=rowsC_get hz
   rw[h3 i]
   cases hb:Nat.blt i n with
   |false=>exact .junk
   |true=>
    rw[cond_true]
    cases hij:Nat.beq i j with
    |true=>
     have:=Nat.eq_of_beq_eq_true hij
     subst this
     rw[if_pos (by rw[hcs];simp),cond_true,Nat.sub_self]
     exact(hcr 0 _ rfl).tr hG _ hl
    |false=>
     have hne:i≠j:=fun e=>by subst e;simp at hij
     rw[if_neg (by rw[hcs];simp;omega),cond_false]
     have:=c4 i (g i) (by rw[List.getElem?_map,List.getElem?_range hi];simp[hb])
     exact this.tr hG _ hl
 rw[hu] at this
 refine wpIn_run (n:=.skip) (w':=w.setRow b cur') ?_ (fun _ e=>by cases e) ?_
 ·simp[execOp,ho,e1,hv,h1,Result.andThen]
 ·have hp:a.put o.dst undef=a:=by rw[hd];rfl
  show Sat E (s'.app o.dst _) (a.put o.dst undef) _
  rw[hp,hd]
  exact⟨ρ,this⟩
end
end Go.Eng
end
section
namespace Go.Eng
open Go.Sort Go.Lib
section
variable {E:Env} {Q:Exit→ST→Prop} {T:TE} {ops:Array Oper} {rest:List Oper} {o:Oper} {k:List It} {tr0:List (EffM×(List Nat×List Nat))} {fr:Nat→AV} {ob:Nat→Option Ob} {nx nt:Nat} {md:Nat→Bool}
theorem XD.mv {x:Operand} {d:Nat} {y:AV} (ho:o.op=.move x) (hg:o.guard=none) (hds:o.dst=some d) (hdl:Nat.blt d nt=true) (hx:ST.ev ⟨fr,ob,nx,nt,md⟩ x=y)
  (h:XD E ops Q k (tr0++[(⟨y,[]⟩,fpK ops.toList o [])]) rest ⟨upd fr d y,ob,nx,nt,md⟩):XD E ops Q k tr0 (o::rest) ⟨fr,ob,nx,nt,md⟩:=by
 refine XD.step (eff:=⟨y,none⟩) (Local.val (K:=[]) hg (by simp[dstOk,hds,hdl]) fun s' _ hev a w ρ hs=>⟨a.eval x,by simp[execOp,ho],?_⟩) ?_
 ·have:=hs.ev x
  rw[hev x (by rw[ho];simp[Op.operands]),hx] at this
  exact this
 ·simp only[ST.app,hds]
  exact h
theorem XD.loc {eff:Eff} {fp:List Nat×List Nat} (hl:Local E ops o ⟨fr,ob,nx,nt,md⟩ eff fp) (h:XD E ops Q k (tr0++[(eff.toM,fp)]) rest (ST.app ⟨fr,ob,nx,nt,md⟩ o.dst eff)):XD E ops Q k tr0 (o::rest) ⟨fr,ob,nx,nt,md⟩:=XD.step hl h
end
end Go.Eng
end
namespace Go.Proofs.YtgpkkllbejgmlaaGreatDoor
section
open Go.Eng
def upB (f:Nat→Bool) (a:Nat):Nat→Bool:=fun j=>if j=a then true else f j
def nmT (k:K) (s:St):Nat→Nat→Bool
 |0=>fun _=>false
 |i+1=>if runsM (s.marks.getD i default)=true then(if(clAt k i).pause=-1 then upB (nmT k s i) (clAt k i).act.toNat else upB (upB (upB (nmT k s i) (clAt k i).act.toNat) (clAt k i).pause.toNat) (clAt k i).resume.toNat) else nmT k s i
theorem rowB_set (f:Nat→Bool) (a:Nat):setRowF (fun j=>bC (f j)) a 0 [.c (.bool true)]=fun j=>bC (upB f a j):=by
 funext j
 unfold setRowF upB
 by_cases h:j=a
 ·subst h;simp[setL,bC]
 ·rw[beq_false h,cond_false,if_neg h]
theorem nmT_any {k:K} (hF:KFacts k) {s:St} (hs:s.marks.length=k.clauses.length) (a:Nat):∀i,i≤s.marks.length→nmT k s i a=(List.range i).any fun i=>runsM (s.marks.getD i default)&&((clAt k i).act==(a:Int)||((clAt k i).pause !=-1&&((clAt k i).pause==(a:Int)||(clAt k i).resume==(a:Int))))
 |0,_=>rfl
 |i+1,hi=>by
  have ih:=nmT_any hF hs a i (by omega)
  have hcl:=hF.clB (i:=i) (by omega)
  have ha:=hcl.1
  have hpr:=hcl.2.2.2.2.2.1
  rw[List.range_succ,List.any_append,←ih,nmT]
  simp only[List.any_cons,List.any_nil,Bool.or_false]
  cases hr:runsM (s.marks.getD i default) with
  |false=>simp
  |true=>
   rw[if_pos rfl,Bool.true_and]
   have e {z:Int} (hz:0≤z):(a=z.toNat)↔z=(a:Int):=by omega
   by_cases hp:(clAt k i).pause=-1
   ·rw[if_pos hp]
    unfold upB
    by_cases h1:(clAt k i).act=(a:Int)
    ·rw[if_pos ((e (by omega)).2 h1)];simp[h1]
    ·rw[if_neg (fun q=>h1 ((e (by omega)).1 q))];simp[h1,hp]
   ·rw[if_neg hp]
    have hpr:0≤(clAt k i).pause∧0≤(clAt k i).resume:=by
     rcases hpr with⟨q,_⟩|⟨_,q2,q3⟩
     ·exact absurd q hp
     ·unfold natB at q2 q3
      simp at q2 q3
      omega
    unfold upB
    by_cases h3:(clAt k i).resume=(a:Int)
    ·rw[if_pos ((e hpr.2).2 h3)];simp[h3,hp]
    ·rw[if_neg (fun q=>h3 ((e hpr.2).1 q))]
     by_cases h2:(clAt k i).pause=(a:Int)
     ·rw[if_pos ((e hpr.1).2 h2)]
      have:((a:Int)==-1)=false:=by simp
      simp[h2,this,bne]
     ·rw[if_neg (fun q=>h2 ((e hpr.1).1 q))]
      by_cases h1:(clAt k i).act=(a:Int)
      ·rw[if_pos ((e (by omega)).2 h1)];simp[h1]
      ·rw[if_neg (fun q=>h1 ((e (by omega)).1 q))];simp[h1,h2,h3]
theorem nmT_named {k:K} (hF:KFacts k) {s:St} (hs:s.marks.length=k.clauses.length) (a:Nat):nmT k s s.marks.length a=namedB k s a:=nmT_any hF hs a _ (Nat.le_refl _)
noncomputable def hidL (k:K) (s:St) (p:Int):Nat→List Int
 |0=>[]
 |i+1=>if hidB k s p i=true then hidL k s p i++[(i:Int)] else hidL k s p i
theorem hidL_mem {k:K} {s:St} {p:Int} {n:Nat} {z:Int}:z∈hidL k s p n↔∃i,i<n∧z=(i:Int)∧hidB k s p i=true:=by
 induction n with
 |zero=>simp[hidL]
 |succ n ih=>
  rw[hidL]
  split
  ·rename_i h
   rw[List.mem_append,ih,List.mem_singleton]
   constructor
   ·rintro (⟨i,h1,h2⟩|h1)
    ·exact⟨i,by omega,h2⟩
    ·exact⟨n,by omega,h1,h⟩
   ·rintro⟨i,h1,h2,h3⟩
    by_cases q:i=n
    ·subst q;exact .inr h2
    ·exact .inl ⟨i,by omega,h2,h3⟩
  ·rename_i h
   rw[ih]
   constructor
   ·rintro⟨i,h1,h2⟩
    exact⟨i,by omega,h2⟩
   ·rintro⟨i,h1,h2,h3⟩
    by_cases q:i=n
    ·subst q;exact absurd h3 h
    ·exact⟨i,by omega,h2,h3⟩
theorem hidL_len (k:K) (s:St) (p:Int):∀n,(hidL k s p n).length≤n
 |0=>Nat.le_refl _
 |n+1=>by
  have:=hidL_len k s p n
  rw[hidL]
  split
  ·simp;omega
  ·omega
theorem hidden_ok (k:K) (hF:KFacts k) (s:St) (hs:s.marks.length=k.clauses.length) (p:Int):Does Tryz.prog 72 [kV k,stV s,.c (.int .i64 p)] (intsV (hidL k s p k.acts.length)):=by
 have hk:=hF.w
 have hna:=hF.na
 have hnc:=hF.nc
 refine Does.mk (fun _=>false) TT_ok Tryz.func72 rfl (by kernel_rfl) Tryz.ntmps72 rfl rfl fun E hT hE hN hR=>?_
 have hm:=mixO hE
 refine XK.w ?_
 refine XK.loop (ι:=Nat) (fun i=>ST.of [(2,.c (.int .i64 p)),(3,.ptr 3 0),(4,.ptr 4 0),(7,.vec 108 0),(19,rowL mkC 5 s.marks),(20,.c (.int .i64 s.marks.length)),(21,.c (.int .i64 i))]
   [(3,.cells 27 (kC k)),(4,.cells 44 (stC s)),(108,.vec 4 1 0 k.acts.length (fun j=>bC (nmT k s i j)))] 1000 91 (fun _=>false))
  (fun i=>i≤s.marks.length) (fun i=>s.marks.length-i) 0 (Nat.zero_le _) (Weak.of hN rfl rfl rfl frV frI) fun i hi=>?_
 refine XK.c ?_ ?_<;>intro hlt<;>try simp at hlt
 ·have hcl:=hF.clB (i:=i) (by omega)
  have fm:s.marks.getD (i:Int).toNat default=s.marks.getD i default:=rfl
  have fc:k.clauses.getD (i:Int).toNat default=clAt k i:=rfl
  have hn:nmT k s (i+1)=if runsM (s.marks.getD i default)=true then(if(clAt k i).pause=-1 then upB (nmT k s i) (clAt k i).act.toNat else upB (upB (upB (nmT k s i) (clAt k i).act.toNat) (clAt k i).pause.toNat) (clAt k i).resume.toNat) else nmT k s i:=rfl
  unfold runsM at hn
  refine XK.w ?_
  rw[fm]
  generalize s.marks.getD i default=m at*
  refine XK.c ?_ ?_<;>intro h1<;>try simp at h1
  ·rw[if_neg (by simp;omega)] at hn
   refine XK.w ?_
   refine XK.inv ⟨i+1,hlt,?_,by omega⟩
   rw[hn]
   exact(Weak.of hN rfl rfl rfl frV frI)
  ·rw[if_pos (by simp;omega)] at hn
   refine XK.w ?_
   rw[fc]
   generalize clAt k i=x at*
   have hact:=hcl.1
   have hpr:=hcl.2.2.2.2.2.1
   clear hcl
   refine XK.c ?_ ?_<;>intro h2<;>try simp at h2
   ·rw[if_neg h2] at hn
    have hpr:(0≤x.pause∧x.pause<k.acts.length)∧0≤x.resume∧x.resume<k.acts.length:=by
     rcases hpr with⟨q,_⟩|⟨_,q2,q3⟩
     ·exact absurd q h2
     ·unfold natB at q2 q3
      simp at q2 q3
      omega
    refine XK.drawn hm ?_
    refine XD.goN 3 hT rfl rfl rfl rfl rfl rfl trivial ?_
    refine XD.mv rfl rfl rfl rfl rfl ?_
    refine XD.e ?_
    refine XK.inv ⟨i+1,hlt,?_,by omega⟩
    rw[hn]
    refine Weak.of hN rfl rfl rfl frV ⟨frI,frI,⟨rfl,rfl,rfl⟩,rfl,fun j hj=>?_⟩
    rw[rowB_set,rowB_set,rowB_set]
   ·rw[if_pos h2] at hn
    refine XK.w ?_
    refine XK.inv ⟨i+1,hlt,?_,by omega⟩
    rw[hn]
    refine Weak.of hN rfl rfl rfl frV ⟨frI,frI,⟨rfl,rfl,rfl⟩,rfl,fun j hj=>?_⟩
    rw[rowB_set]
 have hie:i=s.marks.length:=by omega
 subst hie
 clear hlt hi
 have hnm:=nmT_named hF hs
 generalize nmT k s s.marks.length=nm at*
 refine XK.w ?_
 refine XK.loop (ι:=Nat) (fun i=>ST.of [(2,.c (.int .i64 p)),(3,.ptr 3 0),(4,.ptr 4 0),(7,.vec 108 0),(11,.vec 900 0),(56,actsV k.acts),(57,.c (.int .i64 k.acts.length)),(58,.c (.int .i64 i))]
   [(3,.cells 27 (kC k)),(4,.cells 44 (stC s)),(108,.vec 4 1 0 k.acts.length (fun j=>bC (nm j))),(900,iO 0 (hidL k s p i))] 1000 91 (fun _=>false))
  (fun i=>i≤k.acts.length) (fun i=>k.acts.length-i) 0 (Nat.zero_le _)
  (Weak.trans (Weak.ghost (j:=11) (k:=900) (e:=3) (sz:=1) (f:=fun _=>[]) rfl rfl) (Weak.of hN rfl rfl rfl frV (by(repeat' (first|exact rfl|exact AvIs.refl _|exact trivial|exact fun _ _=>rfl|exact fun _ _=>⟨rfl,AvIs.refl _⟩|exact cI (by omega)|exact(fun j hj=>absurd hj (Nat.not_lt_zero _))|refine⟨?_,?_⟩))))) fun i hi=>?_
 have hll:=hidL_len k s p i
 refine XK.c ?_ ?_<;>intro hlt<;>try simp at hlt
 ·have fa:k.acts.getD (i:Int).toNat default=acAt k i:=rfl
  have hse:=sees2_ok k hk s p i
  have hsn:hidL k s p (i+1)=if hidB k s p i=true then hidL k s p i++[(i:Int)] else hidL k s p i:=rfl
  have hb:hidB k s p i=(nm i&&(acAt k i).kind==1&&(acAt k i).to !=-1&&!SeesR k s p i):=by rw[hnm];rfl
  rw[hb] at hsn
  clear hb
  have fn:nm (i:Int).toNat=nm i:=rfl
  generalize SeesR k s p i=sb at*
  generalize hidL k s p i=L at*
  refine XK.r ?_
  rw[fa,fn]
  refine XL.callLG hE rfl rfl rfl rfl rfl rfl rfl (by first|(simp[AllP,impG];done)|(simp only[AllP,impG];grind)) rfl (fun hgd=>⟨hse,(by(repeat' (first|exact rfl|exact AvIs.refl _|exact trivial|(intro i hi;rfl)|exact fun _ _=>⟨rfl,AvIs.refl _⟩|(intro i hi;rcases i with _|_|_|_|_|_|_|i<;>first|rfl|exact absurd hi (by simp;done)|(simp at hi;omega))|refine⟨?_,?_⟩)))⟩) rfl ?_
  refine XL.e ?_
  generalize hcb:(nm i&&(acAt k i).kind==1&&(acAt k i).to !=-1&&!sb)=cb at*
  refine XK.c ?_ ?_<;>intro h3<;>try simp at h3
  ·subst h3
   rw[if_pos rfl] at hsn
   refine XK.w ?_
   refine XK.inv ⟨i+1,hlt,?_,by omega⟩
   rw[hsn]
   refine Weak.trans (Weak.stamp (k:=900) (t:=0) hN rfl rfl) (Weak.of hN rfl rfl rfl frV ⟨frI,frI,frI,⟨rfl,rfl,rfl⟩,by simp,intsO_snoc _ _ _ rfl⟩)
  ·subst h3
   rw[if_neg (by simp)] at hsn
   refine XK.w ?_
   refine XK.inv ⟨i+1,hlt,?_,by omega⟩
   rw[hsn]
   exact(Weak.of hN rfl rfl rfl frV frI)
 ·have hie:i=k.acts.length:=by omega
  subst hie
  refine XK.weak (Weak.trans (Weak.frozen (k:=900) hN rfl rfl) (Weak.of (L:=[(11,intsV (hidL k s p k.acts.length))]) (O:=[]) (nx:=2000) (nt:=91) (md:=fun _=>false) hN rfl rfl rfl frI trivial)) ?_
  refine XK.w ?_
  refine XK.q ?_
  rfl
end
end Go.Proofs.YtgpkkllbejgmlaaGreatDoor
