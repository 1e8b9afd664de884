import Derived.Test.YtgpkkllbejgmlaaGreatDoorZz14
import Derived.Test.YtgpkkllbejgmlaaGreatDoorZz20
import Derived.Test.YtgpkkllbejgmlaaGreatDoorZz18
import Derived.Test.YtgpkkllbejgmlaaGreatDoorZz15
import Derived.Test.YtgpkkllbejgmlaaGreatDoorZz13
import Derived.Test.YtgpkkllbejgmlaaGreatDoorZz19
set_option linter.unusedSimpArgs false
set_option linter.unusedVariables false
set_option maxRecDepth 10000
section
namespace Go.Eng
open Go.Sort Go.Lib
section
variable {E:Env} {st:ST} {a:Act} {w:World} {ρ:Rho} {Q:Exit→ST→Prop} {T:TE} {ops:Array Oper} {rest:List Oper} {o:Oper}
theorem XL.lenMapG {t d m kt et j:Nat} {pol g:Bool} {x:Operand} {ti:TI} {kk:KK} {zv:Value} {dm:Value→Bool} {f:Value→AV} {L:List Value} (hL:MapDom kk dm L) (hT:TOk E.P T)
  (ho:o.op=.call {callee:=.builtin .len,args:=#[x],argTypes:=#[t]}) (hg:o.guard=some (j,pol)) (hgv:gval st ops.toList j pol=some g) (hda:ops.toList.all (dstOk st)=true) (hd:o.dst=some d) (hdl:Nat.blt d st.nt=true)
  (ht:T.find t=some ti) (hkd:ti.kind=.map kt et) (hx:st.ev x=.gd g (.mp m)) (hm:st.ob m=some (.mapb kk zv dm f))
  (h:XL E ops Q rest {st with fr:=upd st.fr d (.gd g (.c (.int .i64 L.length)))}):XL E ops Q (o::rest) st:=by
 have hdst:dstOk st o=true:=by simp[dstOk,hd,hdl]
 refine XL.step (st':={st with fr:=upd st.fr d (.gd g (.c (.int .i64 L.length)))}) ?_ h
 intro a w ⟨ρ,hs⟩ Q'
 have hwv:Region.wanted o (yielded ops a.tmps)=g:=by
  have:=gval_ok hs hgv (fun o' d h1 h2=>dstOk_lt (List.all_eq_true.1 hda o' (Array.mem_toList_iff.2 (Array.mem_of_getElem? h1))) d h2)
  simp only[Region.wanted,hg,this]
 have hdl':=Nat.lt_of_succ_le (Nat.le_of_ble_eq_true hdl)
 cases hgb:g with
 |false=>
  subst hgb
  rw[if_neg (by rw[hwv];simp),hd]
  exact⟨ρ,hs.put hdl' (.gd (fun e=>by cases e) fun _=>rfl)⟩
 |true=>
  subst hgb
  rw[if_pos hwv]
  obtain⟨b,es,clock,h1,h2,⟨h3,h4⟩,h5⟩:=hs.ob m _ hm
  have hk:=(hT t ti ht).kind
  rw[hkd] at hk
  have hev:a.eval x=.map (some b):=by
   have:=hs.ev x
   rw[hx] at this
   have:=this.gd_inv.1 rfl
   generalize a.eval x=u at this
   cases this with|mp hk=>rw[h1] at hk;injection hk with hk;injection hk with hk;rw[hk]
  have hsz:=dom_size hL h3 h4 fun v hv=>by
   obtain⟨r,r1,r2,_⟩:=h5 v hv
   exact⟨r,r1,r2⟩
  refine wpIn_run (n:=.value (.int .i64 L.length)) (w':=w) ?_ (fun _ e=>by cases e) ?_
  ·simp[execOp,ho,resolve,invoke,builtin,hev,Builtin.len_,run_underlying hk,Go.MapKept.run_getObj_map h2,goInt,hsz,Result.andThen]
  ·show Sat E _ (a.put o.dst _) w
   rw[hd]
   exact⟨ρ,hs.put hdl' (.gd (fun _=>.c) fun e=>by cases e)⟩
section
variable {fr:Nat→AV} {ob:Nat→Option Ob} {nx nt:Nat} {md:Nat→Bool}
theorem XL.lenMapE {t d m kt et:Nat} {x:Operand} {ti:TI} {kk:KK} {zv:Value} {dm:Value→Bool} {f:Value→AV} {L:List Value} (hL:MapDom kk dm L) (hT:TOk E.P T)
  (ho:o.op=.call {callee:=.builtin .len,args:=#[x],argTypes:=#[t]}) (hg:o.guard=none) (hd:o.dst=some d) (hdl:Nat.blt d nt=true)
  (ht:T.find t=some ti) (hkd:ti.kind=.map kt et) (hx:ST.ev ⟨fr,ob,nx,nt,md⟩ x=.mp m) (hm:ob m=some (.mapb kk zv dm f))
  (h:XL E ops Q rest ⟨upd fr d (.c (.int .i64 L.length)),ob,nx,nt,md⟩):XL E ops Q (o::rest) ⟨fr,ob,nx,nt,md⟩:=XL.lenMap hL hT ho hg hd hdl ht hkd hx hm h
theorem XL.lenMapGE {t d m kt et j:Nat} {pol g:Bool} {x:Operand} {ti:TI} {kk:KK} {zv:Value} {dm:Value→Bool} {f:Value→AV} {L:List Value} (hL:MapDom kk dm L) (hT:TOk E.P T)
  (ho:o.op=.call {callee:=.builtin .len,args:=#[x],argTypes:=#[t]}) (hg:o.guard=some (j,pol)) (hgv:gval ⟨fr,ob,nx,nt,md⟩ ops.toList j pol=some g) (hda:ops.toList.all (dstOk ⟨fr,ob,nx,nt,md⟩)=true) (hd:o.dst=some d) (hdl:Nat.blt d nt=true)
  (ht:T.find t=some ti) (hkd:ti.kind=.map kt et) (hx:ST.ev ⟨fr,ob,nx,nt,md⟩ x=.gd g (.mp m)) (hm:ob m=some (.mapb kk zv dm f))
  (h:XL E ops Q rest ⟨upd fr d (.gd g (.c (.int .i64 L.length))),ob,nx,nt,md⟩):XL E ops Q (o::rest) ⟨fr,ob,nx,nt,md⟩:=XL.lenMapG hL hT ho hg hgv hda hd hdl ht hkd hx hm h
theorem XL.deleteE {t tk m kt et:Nat} {mx kx:Operand} {ti:TI} {kk:KK} {zv v:Value} {dm:Value→Bool} {f:Value→AV} (z:AV) (hz:∀w G,R w G Rho.none z zv) (hT:TOk E.P T)
  (ho:o.op=.call {callee:=.builtin .delete,args:=#[mx,kx],argTypes:=#[t,tk]}) (hg:o.guard=none) (hd:o.dst=none)
  (ht:T.find t=some ti) (hkd:ti.kind=.map kt et) (hkk:keyKind T kt=some kk) (hx:ST.ev ⟨fr,ob,nx,nt,md⟩ mx=.mp m) (hkx:keyV (ST.ev ⟨fr,ob,nx,nt,md⟩ kx)=some v) (hv:kk.has v=true) (hm:ob m=some (.mapb kk zv dm f))
  (h:XL E ops Q rest ⟨fr,upd ob m (some (.mapb kk zv (fun u=>!keyEq u v&&dm u) (fun u=>bif keyEq u v then z else f u))),nx,nt,md⟩):XL E ops Q (o::rest) ⟨fr,ob,nx,nt,md⟩:=by
 refine XL.delete z hT ho hg (fun d h=>by rw[hd] at h;cases h) ht hkd hkk hx hkx hv hm ?_ hz
 rw[hd]
 exact h
end
end
end Go.Eng
end
namespace Go.Proofs.YtgpkkllbejgmlaaGreatDoor
section
open Go.Eng
def jn (f:Nat→Nat) (i j:Nat):Nat→Nat:=fun x=>if f x=max (f i) (f j) then min (f i) (f j) else f x
structure RtOk (f:Nat→Nat):Prop where
 idem:∀x,f (f x)=f x
 le:∀x,f x≤x
theorem RtOk.jn {f:Nat→Nat} (h:RtOk f) (i j:Nat):RtOk (jn f i j):=by
 have hm:f (min (f i) (f j))=min (f i) (f j):=by
  rcases Nat.le_total (f i) (f j) with q|q
  ·rw[Nat.min_eq_left q,h.idem]
  ·rw[Nat.min_eq_right q,h.idem]
 refine⟨fun x=>?_,fun x=>?_⟩
 ·unfold Go.Proofs.YtgpkkllbejgmlaaGreatDoor.jn
  by_cases e:f x=max (f i) (f j)
  ·rw[if_pos e,hm]
   split
   ·rfl
   ·rfl
  ·rw[if_neg e,h.idem,if_neg e]
 ·unfold Go.Proofs.YtgpkkllbejgmlaaGreatDoor.jn
  have:=h.le x
  split<;>omega
theorem jn_eq {f:Nat→Nat} {i j x y:Nat} (h:f x=f y):jn f i j x=jn f i j y:=by unfold jn;rw[h]
theorem jn_at (f:Nat→Nat) (i j:Nat):jn f i j i=jn f i j j:=by
 unfold jn
 rcases Nat.le_total (f i) (f j) with q|q
 ·rw[Nat.max_eq_right q,Nat.min_eq_left q,if_pos rfl]
  split<;>rfl
 ·rw[Nat.max_eq_left q,Nat.min_eq_right q,if_pos rfl]
  split<;>first|rfl|rename_i e;exact e.symm▸rfl
def numsC (x:Cl):List Int:=if x.pause=-1 then[x.act] else[x.act,x.pause,x.resume]
abbrev Uf:=(Nat→Nat)×(Int→Option Nat)
def useC (i:Nat) (s:Uf) (a:Int):Uf:=match s.2 a with
 |some v=>(jn s.1 v i,s.2)
 |none=>(s.1,fun b=>if b=a then some i else s.2 b)
def cmpS (k:K) (wh:Bool) (s:Uf) (i:Nat):Uf:=
 (numsC (clAt k i)).foldl (useC i) ((clAt k i).start.foldl (fun f c=>jn f i c.clause.toNat) (if wh=true then jn s.1 0 i else s.1),s.2)
def cmpT (k:K) (wh:Bool):Nat→Uf
 |0=>(id,fun _=>none)
 |i+1=>cmpS k wh (cmpT k wh i) i
def Ext (f g:Nat→Nat):Prop:=(RtOk f→RtOk g)∧∀x y,f x=f y→g x=g y
theorem Ext.refl (f:Nat→Nat):Ext f f:=⟨id,fun _ _ h=>h⟩
theorem Ext.trans {f g h:Nat→Nat} (a:Ext f g) (b:Ext g h):Ext f h:=⟨fun q=>b.1 (a.1 q),fun x y q=>b.2 x y (a.2 x y q)⟩
theorem ext_jn (f:Nat→Nat) (i j:Nat):Ext f (jn f i j):=⟨fun h=>h.jn i j,fun _ _ h=>jn_eq h⟩
theorem start_ext (i:Nat):∀(l:List Cnd) (f:Nat→Nat),Ext f (l.foldl (fun f c=>jn f i c.clause.toNat) f)∧∀c∈l,(l.foldl (fun f c=>jn f i c.clause.toNat) f) i=(l.foldl (fun f c=>jn f i c.clause.toNat) f) c.clause.toNat
 |[],f=>⟨Ext.refl f,fun c h=>by cases h⟩
 |d::l,f=>by
  obtain⟨h1,h2⟩:=start_ext i l (jn f i d.clause.toNat)
  refine⟨(ext_jn f i d.clause.toNat).trans h1,fun c hc=>?_⟩
  rcases List.mem_cons.1 hc with q|q
  ·rw[q]
   exact h1.2 _ _ (jn_at f i d.clause.toNat)
  ·exact h2 c q
def UsOk (s:Uf) (i:Nat) (a:Int):Prop:=∃u,s.2 a=some u∧s.1 u=s.1 i
theorem use_ext (i:Nat) (s:Uf) (a:Int):Ext s.1 (useC i s a).1∧UsOk (useC i s a) i a∧∀b u,s.2 b=some u→(useC i s a).2 b=some u:=by
 unfold useC UsOk
 split
 ·rename_i v hv
  exact⟨ext_jn _ _ _,⟨v,hv,jn_at _ _ _⟩,fun b u h=>h⟩
 ·rename_i hv
  refine⟨Ext.refl _,⟨i,if_pos rfl,rfl⟩,fun b u h=>?_⟩
  show(if b=a then _ else _)=_
  rw[if_neg (fun e=>by rw[e,hv] at h;cases h)]
  exact h
theorem uses_ext (i:Nat):∀(l:List Int) (s:Uf),Ext s.1 (l.foldl (useC i) s).1∧(∀b u,s.2 b=some u→(l.foldl (useC i) s).2 b=some u)∧∀a∈l,UsOk (l.foldl (useC i) s) i a
 |[],s=>⟨Ext.refl _,fun b u h=>h,fun a h=>by cases h⟩
 |b::l,s=>by
  obtain⟨h1,h2,h3⟩:=uses_ext i l (useC i s b)
  obtain⟨g1,g2,g3⟩:=use_ext i s b
  refine⟨g1.trans h1,fun c u h=>h2 c u (g3 c u h),fun a ha=>?_⟩
  rcases List.mem_cons.1 ha with q|q
  ·rw[q]
   obtain⟨u,q1,q2⟩:=g2
   exact⟨u,h2 b u q1,h1.2 _ _ q2⟩
  ·exact h3 a q
structure CmpOk (k:K) (wh:Bool) (s:Uf) (n:Nat):Prop where
 rt:RtOk s.1
 whole:wh=true→∀i,i<n→s.1 i=s.1 0
 link:∀i,i<n→∀c∈(clAt k i).start,s.1 i=s.1 c.clause.toNat
 users:∀i,i<n→∀a∈numsC (clAt k i),UsOk s i a
theorem cmp_ok (k:K) (wh:Bool):∀n,CmpOk k wh (cmpT k wh n) n
 |0=>⟨⟨fun _=>rfl,fun _=>Nat.le_refl _⟩,fun _ i h=>absurd h (Nat.not_lt_zero _),fun i h=>absurd h (Nat.not_lt_zero _),fun i h=>absurd h (Nat.not_lt_zero _)⟩
 |n+1=>by
  have ih:=cmp_ok k wh n
  show CmpOk k wh (cmpS k wh (cmpT k wh n) n) (n+1)
  generalize cmpT k wh n=s at ih ⊢
  unfold cmpS
  have hE0:Ext s.1 (if wh=true then jn s.1 0 n else s.1):=by split;exact ext_jn _ _ _;exact Ext.refl _
  obtain⟨hE1,hst⟩:=start_ext n (clAt k n).start (if wh=true then jn s.1 0 n else s.1)
  obtain⟨hE2,hus,hnw⟩:=uses_ext n (numsC (clAt k n)) ((clAt k n).start.foldl (fun f c=>jn f n c.clause.toNat) (if wh=true then jn s.1 0 n else s.1),s.2)
  have hE:=(hE0.trans hE1).trans hE2
  refine⟨hE.1 ih.rt,fun hw i hi=>?_,fun i hi c hc=>?_,fun i hi a ha=>?_⟩
  ·by_cases e:i=n
   ·subst e
    refine(hE1.trans hE2).2 _ _ ?_
    rw[if_pos hw]
    exact(jn_at s.1 0 i).symm
   ·exact hE.2 _ _ (ih.whole hw i (by omega))
  ·by_cases e:i=n
   ·subst e
    exact hE2.2 _ _ (hst c hc)
   ·exact hE.2 _ _ (ih.link i (by omega) c hc)
  ·by_cases e:i=n
   ·subst e
    exact hnw a ha
   ·obtain⟨u,q1,q2⟩:=ih.users i (by omega) a ha
    exact⟨u,hus a u q1,hE.2 _ _ q2⟩
end
section
open Go.Eng
def partsOf (n:Nat) (f:Nat→Nat):List (List Nat):=((List.range n).filter fun r=>f r==r).map fun r=>(List.range n).filter fun x=>f x==r
def wholeB (k:K):Bool:=k.acts.any fun a=>a.kind !=1
def compsL (k:K):List (List Nat):=partsOf k.clauses.length (cmpT k (wholeB k) k.clauses.length).1
theorem named_nums {k:K} (hF:KFacts k) {i:Nat} (hi:i<k.clauses.length) {a:Int} (ha:0≤a) (h:namedC k i a):a∈numsC (clAt k i):=by
 have hcl:=(hF.clB hi).2.2.2.2.2.1
 unfold namedC at h
 unfold numsC
 split
 ·rename_i hp
  rcases h with q|q|q
  ·rw[←q];exact List.mem_cons_self
  ·omega
  ·rcases hcl with⟨-,g⟩|⟨g1,g2,g3⟩
   ·omega
   ·rw[hp] at g2;cases g2
 ·rcases h with q|q|q
  ·rw[←q];simp
  ·rw[←q];simp
  ·rw[←q];simp
theorem comps_parts {k:K} (hF:KFacts k):Parts k (compsL k):=by
 have hC:=cmp_ok k (wholeB k) k.clauses.length
 unfold compsL
 generalize cmpT k (wholeB k) k.clauses.length=s at hC
 obtain⟨hR,hW,hL,hU⟩:=hC
 have hin {cl:List Nat} (h:cl∈partsOf k.clauses.length s.1):∃r,r<k.clauses.length∧s.1 r=r∧cl=(List.range k.clauses.length).filter fun x=>s.1 x==r:=by
  obtain⟨r,hr,e⟩:=List.mem_map.1 h
  obtain⟨h1,h2⟩:=List.mem_filter.1 hr
  exact⟨r,List.mem_range.1 h1,by simpa using h2,e.symm⟩
 have hmem {r i:Nat}:i∈((List.range k.clauses.length).filter fun x=>s.1 x==r)↔i<k.clauses.length∧s.1 i=r:=by
  rw[List.mem_filter,List.mem_range,beq_iff_eq]
 refine⟨fun cl hc=>?_,fun i hi=>?_,fun cl hc cl' hc' hne a ha=>?_,fun cl hc cl' hc' hne i hi j hj a ha h1 h2=>?_⟩
 ·obtain⟨r,hr,hrr,rfl⟩:=hin hc
  refine⟨List.Pairwise.filter _ List.pairwise_lt_range,fun i hi=>(hmem.1 hi).1,fun i hi c hcs=>?_⟩
  obtain⟨hi,hir⟩:=hmem.1 hi
  have hcd:=hF.cond hi hcs
  refine⟨by omega,hmem.2 ⟨by omega,?_⟩⟩
  rw[←hL i hi c hcs]
  exact hir
 ·have hle:=hR.le i
  exact⟨_,List.mem_map.2 ⟨s.1 i,List.mem_filter.2 ⟨List.mem_range.2 (by omega),by rw[hR.idem];simp⟩,rfl⟩,hmem.2 ⟨hi,rfl⟩⟩
 ·obtain⟨r,hr,hrr,rfl⟩:=hin hc
  obtain⟨r',hr',hrr',rfl⟩:=hin hc'
  by_cases hk:(acAt k a).kind=1
  ·exact hk
  ·exfalso
   have hw:wholeB k=true:=List.any_eq_true.2 ⟨acAt k a,by
    unfold acAt
    rw[List.getD_eq_getElem?_getD,List.getElem?_eq_getElem ha]
    exact List.getElem_mem ha,by simpa using hk⟩
   refine hne ?_
   have e:r=r':=by rw[←hrr,hW hw r hr,←hW hw r' hr',hrr']
   rw[e]
 ·obtain⟨r,hr,hrr,rfl⟩:=hin hc
  obtain⟨r',hr',hrr',rfl⟩:=hin hc'
  obtain⟨hi,hir⟩:=hmem.1 hi
  obtain⟨hj,hjr⟩:=hmem.1 hj
  obtain⟨u,q1,q2⟩:=hU i hi a (named_nums hF hi ha h1)
  obtain⟨v,g1,g2⟩:=hU j hj a (named_nums hF hj ha h2)
  rw[q1] at g1
  injection g1 with g1
  subst g1
  refine hne ?_
  have e:r=r':=by rw[←hir,←q2,g2,hjr]
  rw[e]
end
end Go.Proofs.YtgpkkllbejgmlaaGreatDoor
section
namespace Go.Eng
open Go.Sort Go.Lib
section
variable {E:Env} {Q:Exit→ST→Prop} {T:TE} {ops:Array Oper} {rest:List Oper} {o:Oper}
theorem XL.rowsGrow {L:List (Nat×AV)} {O:List (Nat×Ob)} {B nx nt m k e u2 sz b n cap d t:Nat} {md:Nat→Bool} {F:Nat→Nat×(Nat→List AV)} (F':Nat→Nat×(Nat→List AV)) {x y:Operand} {f1:Nat→List AV} {ti te:TI}
  (hT:TOk E.P T) (ho:o.op=.call {callee:=.builtin .append,args:=#[x,y],argTypes:=#[t,t]}) (hg:o.guard=none) (hds:o.dst=some d) (hdl:Nat.blt d nt=true)
  (ht:T.find t=some ti) (hkk:ti.kind=.slice e) (hte:T.find e=some te) (hsz:te.size=1) (hzl:te.zero.length=1) (hby:te.bytes=24)
  (hx:ST.ev ⟨mkFr L,obF B u2 sz F ((k,rowsC e b n cap (famG B))::O),nx,nt,md⟩ x=rowsH b n cap) (hy:ST.ev ⟨mkFr L,obF B u2 sz F ((k,rowsC e b n cap (famG B))::O),nx,nt,md⟩ y=.rs 1 1 f1) (hf1:f1 0=[.c (.slice none 0 0)])
  (hN:E.N=m) (hm:Nat.ble m k=true) (hmB:Nat.ble m B=true) (hk:keptX B L k O=true) (hnc:n≤cap) (hcm:cap≤maxLen) (hn1:n≤100000)
  (hFn:(F' n).1=0) (hFo:∀t,t≠n→F' t=F t)
  (h:∀b' cap',n+1≤cap'→cap'≤maxLen→XL E ops Q rest ⟨mkFr ((d,rowsH b' (n+1) cap')::L),obF B u2 sz F' ((k,rowsC e b' (n+1) cap' (famG B))::O),nx,nt,md⟩):
  XL E ops Q (o::rest) ⟨mkFr L,obF B u2 sz F ((k,rowsC e b n cap (famG B))::O),nx,nt,md⟩:=by
 refine XL.any hg fun a w ρ hs=>?_
 simp only[keptX,Bool.and_eq_true,List.all_eq_true,Bool.not_eq_true'] at hk
 obtain⟨⟨⟨k1,k2⟩,k3⟩,k4⟩:=hk
 have k4:=smallN_lt k4
 have hm:=Nat.le_of_ble_eq_true hm
 have hmB:=Nat.le_of_ble_eq_true hmB
 have hob:∀j,j<B→(ST.mk (mkFr L) (obF B u2 sz F ((k,rowsC e b n cap (famG B))::O)) nx nt md).ob j=mkOb ((k,rowsC e b n cap (famG B))::O) j:=fun j hj=>obF_lt hj
 obtain⟨arr,c1,c2,c3,c4⟩:=hs.ob k (rowsC e b n cap (famG B)) (by rw[hob k k4,mkOb_cons,if_pos rfl])
 have hcl:arr.size=cap:=by simpa using c3
 have hfam:∀i,∃hv xs,ρ (B+i)=some (.hdr 0 hv)∧w.ownsRow 0 u2 sz hv (F i).1 xs∧(∀q,q<(F i).1→((F i).2 q).length=sz)∧∀q j x,q<(F i).1→((F i).2 q)[j]?=some x→R w (E.good w ρ) Rho.none x (xs.getD (q*sz+j) undef):=fun i=>by
  have h1:(ST.mk (mkFr L) (obF B u2 sz F ((k,rowsC e b n cap (famG B))::O)) nx nt md).ob (B+i)=some (.vec u2 sz 0 (F i).1 (F i).2):=by
   have:=obF_ge (B:=B) (e:=u2) (sz:=sz) (F:=F) (O:=(k,rowsC e b n cap (famG B))::O) (Nat.le_add_right B i)
   rw[Nat.add_sub_cancel_left] at this
   exact this
  exact hs.ob (B+i) _ h1
 have hvals:∀i,i<n→ρ (B+i)=some (.hdr 0 (arr.getD i undef)):=fun i hi=>by
  have h1:=c4 i (.vec (B+i) 0) (by rw[List.getElem?_map,List.getElem?_range (by omega)];simp[blt_iff.2 hi,famG])
  obtain⟨hv,_,h2,_⟩:=hfam i
  rw[h1.vec_inv h2];exact h2
 have e1:a.eval x=.slice (some ⟨b,0,none⟩) n cap:=by
  have:=hs.ev x
  rw[hx] at this
  exact this.c_inv
 have r2:=hs.ev y
 rw[hy] at r2
 obtain⟨A,cap2,e2,q1,q2,q3,q4⟩:=r2.rs_inv
 obtain⟨ad,rfl,_,hc⟩:=q4 Nat.one_pos
 obtain⟨v0,hv0,hr0⟩:=hc 0 Nat.one_pos 0 (.c (.slice none 0 0)) (by rw[hf1];rfl)
 have hv0e:=hr0.c_inv
 have hown:w.ownsRow 0 e 1 (.slice (some ⟨b,0,none⟩) n cap) n (arr.toList.take n):=⟨by simp;omega,.inr ⟨b,cap,arr,rfl,Nat.zero_le _,c2,hnc,hcm,by omega,by simp⟩⟩
 have hkd:=(hT t ti ht).kind
 rw[hkk] at hkd
 simp only[KindOk] at hkd
 obtain⟨inf,z0,hi,hsz',hbt,hz,hzc⟩:=(hT e te hte).info
 have hzs:z0.cells.size=1:=by rw[hzc];simpa using hzl
 obtain⟨z,w',r1,r3,r4,_,r5⟩:=run_append_own_at (P:=E.P) w 0 t o.type e inf z0 1 te.bytes hkd hi hz (hsz'.trans hsz) hbt hzs Nat.one_pos _ n _ hown ad 1 cap2 [.slice none 0 0] rfl (fun j u hu=>by
   have hj:j=0:=by
    have:=(List.getElem?_eq_some_iff.1 hu).1
    simp at this;exact this
   subst hj
   injection hu with hu
   subst hu
   rw[←hv0e]
   rw[add_add] at hv0
   simpa using hv0) (fun u hu=>by rw[List.mem_singleton.1 hu];rfl) (by simp only[maxLen];omega) (by rw[hby];omega) (Nat.zero_le _)
 have hrun:(execOp a.eval o).run E.P w=.ok (.value z) w':=by
  have he:(Builtin.append_ #[t,t] o.type #[a.eval x,a.eval y]).run E.P w=.ok z w':=by rw[e1,e2];exact r1
  simp[execOp,ho,resolve,invoke,builtin,he]
 obtain⟨g,cap',cur,rfl,_,hh,hnc',hcm',hsc,htake⟩:∃g cap' cur,z=.slice (some ⟨g,0,none⟩) (n+1) cap'∧0≤g∧w'.heap[g]?=some (.cells cur e (0,0))∧n+1≤cap'∧cap'≤maxLen∧cur.size=cap'*1∧cur.toList.take ((n+1)*1)=arr.toList.take n++[.slice none 0 0]:=by
  rcases r3.2 with⟨_,h0⟩|q
  ·omega
  ·exact q
 refine⟨_,w',hrun,⟨mkFr ((d,rowsH g (n+1) cap')::L),obF B u2 sz F' ((k,rowsC e g (n+1) cap' (famG B))::O),nx,nt,md⟩,?_,h g cap' hnc' hcm'⟩
 let P:Nat→Bool:=fun j=>smallN B j&&!Nat.beq j k
 have hP:∀j,P j=true→j<B∧j≠k:=fun j hp=>by
  simp only[P,Bool.and_eq_true,Bool.not_eq_true'] at hp
  exact⟨smallN_lt hp.1,fun e=>by subst e;simp at hp⟩
 have hPo:∀j,j<B→j≠k→P j=true:=fun j h1 h2=>by simp[P,smallN_of h1,beq_false h2]
 have hPN:∀j,j<E.N→P j=true:=fun j hj=>hPo j (by omega) (by omega)
 have hfrP:∀j,(mkFr L j).ks P=true:=fun j=>by
  rcases mkFr_cases (L:=L) j with h1|⟨x,hx,h1⟩
  ·rw[h1];rfl
  ·rw[←h1];exact k1 x hx
 -- a row of constants
 have hS1:SatR E ⟨mkFr L,upd (obF B u2 sz F ((k,rowsC e b n cap (famG B))::O)) k (some (.vec e 1 0 n (fun i=>[.c (arr.getD i undef)]))),nx,nt,md⟩ a w (upd ρ k (some (.hdr 0 (.slice (some ⟨b,0,none⟩) n cap)))):=by
  have u1:∀j,j≠k→upd ρ k (some (.hdr 0 (.slice (some ⟨b,0,none⟩) n cap))) j=ρ j:=fun j hj=>upd_other _ _ hj
  refine hs.reob2 P id rfl (fun j hj=>u1 j (hP j hj).2) (fun j=>⟨hs.fr j,hfrP j⟩) (fun j x hj b' hb=>?_) (fun j j' x x' b b' _ _ _ _ h=>h) (fun hG j o' ho'=>?_) (fun j ho'=>?_) hPN
  ·by_cases hjk:j=k
   ·subst hjk
    rw[upd_same] at hj
    injection hj with hj
    subst hj
    exact⟨_,c1,hb⟩
   ·rw[u1 j hjk] at hj
    exact⟨x,hj,hb⟩
  ·by_cases hjk:j=k
   ·subst hjk
    replace ho':upd _ j _ j=some o':=ho'
    rw[upd_same] at ho'
    injection ho' with ho'
    subst ho'
    refine⟨_,_,upd_same _ _ _,hown,fun i _=>rfl,fun i q x hi hx=>?_⟩
    have hq:q=0:=by
     have:=(List.getElem?_eq_some_iff.1 hx).1
     simp at this;exact this
    subst hq
    injection hx with hx
    subst hx
    have:(arr.toList.take n).getD (i*1+0) undef=arr.getD i undef:=by
     have h1:i<arr.size:=by omega
     simp[List.getD,h1,hi]
    rw[this]
    exact .c
   ·replace ho':upd _ k _ j=some o':=ho'
    rw[upd_other _ _ hjk] at ho'
    rcases Nat.lt_or_ge j B with hlt|hge
    ·rw[obF_lt hlt,mkOb_cons,if_neg hjk] at ho'
     have hmem:=mkOb_cases ho'
     exact ObOk.keepP hG (p:=P) (fun j hj=>u1 j (hP j hj).2) (hs.ob j o' (by rw[hob j hlt,mkOb_cons,if_neg hjk];exact ho')) (hPo j hlt hjk) (k2 _ hmem)
    ·have h0:=ho'
     rw[obF_ge hge] at ho'
     injection ho' with ho'
     subst ho'
     obtain⟨hv,xs,g1,g2,g3,g4⟩:=hs.ob j _ h0
     exact⟨hv,xs,(u1 j hjk).trans g1,g2,g3,fun i q x hi hx=>(g4 i q x hi hx).tr (fun b hb=>⟨hG b hb,rfl⟩) _ (Le.refl _)⟩
  ·by_cases hjk:j=k
   ·subst hjk
    replace ho':upd _ j _ j=none:=ho'
    rw[upd_same] at ho';cases ho'
   ·replace ho':upd _ k _ j=none:=ho'
    rw[upd_other _ _ hjk] at ho'
    rw[u1 j hjk]
    exact hs.no j ho'
 have hcg:∀i,i<n+1→cur.getD i undef=(arr.toList.take n++[Value.slice none 0 0]).getD i undef:=fun i hi=>by
  rw[←htake]
  have h1:i<cur.size:=by omega
  simp[List.getD,h1,hi]
 have hS2:=hS1.grow (k:=k) (n':=n+1) (f':=fun i=>[.c (cur.getD i undef)]) (upd_same _ _ _) (fun i _=>rfl) (upd_same _ _ _) r3 r4 (run_drawn _ r1) (by
  rcases r5 with h5|h5
  ·exact .inl h5
  ·exact .inr fun b hb'=>by rw[h5] at hb';injection hb' with hb';omega) (fun i q x hi hx=>by
   have hq:q=0:=by
    have:=(List.getElem?_eq_some_iff.1 hx).1
    simp at this;exact this
   subst hq
   injection hx with hx
   subst hx
   rw[Nat.mul_one,Nat.add_zero,←hcg i hi]
   exact .c)
 clear hS1
 -- the row of rows again
 let ρ2:Rho:=upd (upd ρ k (some (.hdr 0 (.slice (some ⟨b,0,none⟩) n cap)))) k (some (.hdr (0+1) (.slice (some ⟨g,0,none⟩) (n+1) cap')))
 let ρ3:Rho:=fun j=>if j=k then some (.blk g) else if j=B+n then some (.hdr 0 (.slice none 0 0)) else ρ j
 have w2:∀j,j≠k→ρ2 j=ρ j:=fun j hj=>by
  show upd (upd ρ k _) k _ j=ρ j
  rw[upd_other _ _ hj,upd_other _ _ hj]
 have w2k:ρ2 k=some (.hdr (0+1) (.slice (some ⟨g,0,none⟩) (n+1) cap')):=upd_same _ _ _
 have w3:∀j,j≠k→j≠B+n→ρ3 j=ρ j:=fun j h1 h2=>by simp only[ρ3];rw[if_neg h1,if_neg h2]
 have w3k:ρ3 k=some (.blk g):=by simp[ρ3]
 have hBk:B+n≠k:=by omega
 have w3n:ρ3 (B+n)=some (.hdr 0 (.slice none 0 0)):=by simp[ρ3,hBk]
 have hS2:SatR E _ a w' ρ2:=hS2
 have hS3:SatR E ⟨mkFr L,obF B u2 sz F' ((k,rowsC e g (n+1) cap' (famG B))::O),nx,nt,md⟩ a w' ρ3:=by
  have e32:∀j,P j=true→ρ3 j=ρ2 j:=fun j hj=>by
   obtain⟨h1,h2⟩:=hP j hj
   rw[w3 j h2 (by omega),w2 j h2]
  refine hS2.reob2 P id rfl e32 (fun j=>⟨hS2.fr j,hfrP j⟩) (fun j x hj b' hb=>?_) (fun j j' x x' b b' _ _ _ _ h=>h) (fun hG j o' ho'=>?_) (fun j ho'=>?_) hPN
  ·by_cases hjk:j=k
   ·subst hjk
    rw[w3k] at hj
    injection hj with hj
    subst hj
    exact⟨_,w2k,hb⟩
   ·by_cases hjn:j=B+n
    ·subst hjn
     rw[w3n] at hj
     injection hj with hj
     subst hj
     cases hb
    ·rw[w3 j hjk hjn] at hj
     exact⟨x,(w2 j hjk).trans hj,hb⟩
  ·replace ho':obF B u2 sz F' ((k,rowsC e g (n+1) cap' (famG B))::O) j=some o':=ho'
   rcases Nat.lt_or_ge j B with hlt|hge
   ·rw[obF_lt hlt,mkOb_cons] at ho'
    by_cases hjk:j=k
    ·subst hjk
     rw[if_pos rfl] at ho'
     injection ho' with ho'
     subst ho'
     refine⟨cur,w3k,hh,by simp;omega,fun i x hx=>?_⟩
     obtain⟨hi,rfl⟩:=rowsC_get hx
     cases hb:Nat.blt i (n+1) with
     |false=>exact .junk
     |true=>
      have hin:=blt_iff.1 hb
      rw[cond_true]
      refine .vec ?_
      by_cases hien:i=n
      ·subst hien
       rw[hcg i hin,w3n]
       simp[List.getD]
       have hl:(arr.toList.take i).length=i:=by simp;omega
       rw[List.getElem?_append_right (by omega),hl,Nat.sub_self]
       rfl
      ·rw[w3 (B+i) (by omega) (by omega),hvals i (by omega),hcg i hin]
       have h1:i<arr.size:=by omega
       have h2:i<n:=by omega
       simp[List.getD,h1,h2]
       have hl:(arr.toList.take n).length=n:=by simp;omega
       rw[List.getElem?_append_left (by omega)]
       simp[h1,h2]
    ·rw[if_neg hjk] at ho'
     have hmem:=mkOb_cases ho'
     exact ObOk.keepP hG (p:=P) e32 (hS2.ob j o' (by
      show upd _ k _ j=_
      rw[upd_other _ _ hjk]
      show upd _ k _ j=_
      rw[upd_other _ _ hjk,obF_lt hlt,mkOb_cons,if_neg hjk];exact ho')) (hPo j hlt hjk) (k2 _ hmem)
   ·rw[obF_ge hge] at ho'
    injection ho' with ho'
    subst ho'
    have hjk:j≠k:=by omega
    by_cases hjn:j=B+n
    ·subst hjn
     rw[Nat.add_sub_cancel_left]
     exact⟨.slice none 0 0,[],w3n,⟨by simp[hFn],.inl ⟨rfl,hFn⟩⟩,(fun i hi=>absurd hi (by rw[hFn];omega)),fun i j x hi=>absurd hi (by rw[hFn];omega)⟩
    ·rw[hFo (j-B) (by omega)]
     obtain⟨hv,xs,g1,g2,g3,g4⟩:=hS2.ob j (.vec u2 sz 0 (F (j-B)).1 (F (j-B)).2) (by
      show upd _ k _ j=_
      rw[upd_other _ _ hjk]
      show upd _ k _ j=_
      rw[upd_other _ _ hjk,obF_ge hge])
     exact⟨hv,xs,(w3 j hjk hjn).trans ((w2 j hjk).symm.trans g1),g2,g3,fun i q x hi hx=>(g4 i q x hi hx).tr (fun b hb=>⟨hG b hb,rfl⟩) _ (Le.refl _)⟩
  ·replace ho':obF B u2 sz F' ((k,rowsC e g (n+1) cap' (famG B))::O) j=none:=ho'
   rcases Nat.lt_or_ge j B with hlt|hge
   ·rw[obF_lt hlt,mkOb_cons] at ho'
    by_cases hjk:j=k
    ·rw[if_pos hjk] at ho';cases ho'
    ·rw[if_neg hjk] at ho'
     rw[w3 j hjk (by omega)]
     exact hs.no j (by rw[hob j hlt,mkOb_cons,if_neg hjk];exact ho')
   ·rw[obF_ge hge] at ho';cases ho'
 have hdl':=Nat.lt_of_succ_le (Nat.le_of_ble_eq_true hdl)
 have hfin:=hS3.put (d:=d) (x:=rowsH g (n+1) cap') (v:=.slice (some ⟨g,0,none⟩) (n+1) cap') hdl' .c
 have hmk:upd (mkFr L) d (rowsH g (n+1) cap')=mkFr ((d,rowsH g (n+1) cap')::L):=by
  funext j
  by_cases hjd:j=d
  ·subst hjd
   rw[upd_same]
   simp[mkFr]
  ·rw[upd_other _ _ hjd]
   simp[mkFr,beq_false (fun q=>hjd q.symm)]
 rw[hds]
 refine⟨ρ3,?_⟩
 have:=hfin
 simp only[hmk] at this
 exact this
end
end Go.Eng
end
namespace Go.Proofs.YtgpkkllbejgmlaaGreatDoor
section
open Go.Eng
structure Pt where
 kind:Int
 clauses:List Int
 new:Cl
 days:Int
structure Am where
 number:Int
 day:Int
 known:Int
 patch:Pt
instance:Inhabited Pt:=⟨⟨0,[],default,0⟩⟩
instance:Inhabited Am:=⟨⟨0,0,0,default⟩⟩
structure Ef where
 least:Int
 most:Int
 renewed:Bool
 spanned:Bool
end
section
open Go.Eng
theorem cln_ints (l:List Int) (hl:l.length≤1000000):Does Tryz.prog 25 [intsV l] (intsV l):=by
 refine Does.mk (fun d=>Nat.beq d 5) TT_ok Tryz.func25 rfl (by kernel_rfl) Tryz.ntmps25 rfl rfl fun E hT hE hN hR=>?_
 have hm:=mixO hE
 by_cases h0:l.length=0
 ·obtain rfl:l=[]:=List.length_eq_zero_iff.1 h0
  refine XK.rsNil 0 rfl fun A cap hc=>?_
  refine XK.c ?_ ?_<;>intro h1
  ·refine XK.w ?_
   refine XK.weak (Weak.rsNil 2 1 (fun i=>iC (([]:List Int).getD i default)) (Nat.zero_le _) rfl) ?_
   refine XK.w ?_
   refine XK.q ?_
   rfl
  ·refine XK.weak (Weak.rsNil 0 1 (fun i=>iC (([]:List Int).getD i default)) hc rfl) ?_
   refine XK.w ?_
   refine XK.weak (Weak.frozen (k:=21) hN rfl rfl) ?_
   refine XK.w ?_
   refine XK.l ?_
   exact⟨rfl,rfl,fun i hi=>absurd hi (Nat.not_lt_zero _)⟩
 ·refine XK.c ?_ ?_<;>intro h1
  ·cases h1
  ·refine XK.w ?_
   refine XK.weak (Weak.frozen (k:=21) hN rfl rfl) ?_
   refine XK.w ?_
   refine XK.l ?_
   exact⟨rfl,Nat.zero_add _,fun i hi=>by cases i<;>rfl⟩
theorem cln_units (l:List U) (hl:l.length≤1000000):Does Tryz.prog 123 [unitsV l] (unitsV l):=by
 refine Does.mk (fun d=>Nat.beq d 5) TT_ok Tryz.func123 rfl (by kernel_rfl) Tryz.ntmps123 rfl rfl fun E hT hE hN hR=>?_
 have hm:=mixO hE
 by_cases h0:l.length=0
 ·obtain rfl:l=[]:=List.length_eq_zero_iff.1 h0
  refine XK.rsNil 0 rfl fun A cap hc=>?_
  refine XK.c ?_ ?_<;>intro h1
  ·refine XK.w ?_
   refine XK.weak (Weak.rsNil 2 5 (fun i=>uc (([]:List U).getD i default)) (Nat.zero_le _) rfl) ?_
   refine XK.w ?_
   refine XK.q ?_
   rfl
  ·refine XK.weak (Weak.rsNil 0 5 (fun i=>uc (([]:List U).getD i default)) hc rfl) ?_
   refine XK.w ?_
   refine XK.weak (Weak.frozen (k:=21) hN rfl rfl) ?_
   refine XK.w ?_
   refine XK.l ?_
   exact⟨rfl,rfl,fun i hi=>absurd hi (Nat.not_lt_zero _)⟩
 ·refine XK.c ?_ ?_<;>intro h1
  ·cases h1
  ·refine XK.w ?_
   refine XK.weak (Weak.frozen (k:=21) hN rfl rfl) ?_
   refine XK.w ?_
   refine XK.l ?_
   exact⟨rfl,Nat.zero_add _,fun i hi=>by cases i<;>rfl⟩
theorem cln_acts (l:List Act) (hl:l.length≤1000000):Does Tryz.prog 124 [actsV l] (actsV l):=by
 refine Does.mk (fun d=>Nat.beq d 5) TT_ok Tryz.func124 rfl (by kernel_rfl) Tryz.ntmps124 rfl rfl fun E hT hE hN hR=>?_
 have hm:=mixO hE
 by_cases h0:l.length=0
 ·obtain rfl:l=[]:=List.length_eq_zero_iff.1 h0
  refine XK.rsNil 0 rfl fun A cap hc=>?_
  refine XK.c ?_ ?_<;>intro h1
  ·refine XK.w ?_
   refine XK.weak (Weak.rsNil 2 7 (fun i=>actC (([]:List Act).getD i default)) (Nat.zero_le _) rfl) ?_
   refine XK.w ?_
   refine XK.q ?_
   rfl
  ·refine XK.weak (Weak.rsNil 0 7 (fun i=>actC (([]:List Act).getD i default)) hc rfl) ?_
   refine XK.w ?_
   refine XK.weak (Weak.frozen (k:=21) hN rfl rfl) ?_
   refine XK.w ?_
   refine XK.l ?_
   exact⟨rfl,rfl,fun i hi=>absurd hi (Nat.not_lt_zero _)⟩
 ·refine XK.c ?_ ?_<;>intro h1
  ·cases h1
  ·refine XK.w ?_
   refine XK.weak (Weak.frozen (k:=21) hN rfl rfl) ?_
   refine XK.w ?_
   refine XK.l ?_
   exact⟨rfl,Nat.zero_add _,fun i hi=>by cases i<;>rfl⟩
theorem cln_cls (l:List Cl) (hl:l.length≤1000000):Does Tryz.prog 144 [clsV l] (clsV l):=by
 refine Does.mk (fun d=>Nat.beq d 5) TT_ok Tryz.func144 rfl (by kernel_rfl) Tryz.ntmps144 rfl rfl fun E hT hE hN hR=>?_
 have hm:=mixO hE
 by_cases h0:l.length=0
 ·obtain rfl:l=[]:=List.length_eq_zero_iff.1 h0
  refine XK.rsNil 0 rfl fun A cap hc=>?_
  refine XK.c ?_ ?_<;>intro h1
  ·refine XK.w ?_
   refine XK.weak (Weak.rsNil 2 16 (fun i=>clC (([]:List Cl).getD i default)) (Nat.zero_le _) rfl) ?_
   refine XK.w ?_
   refine XK.q ?_
   rfl
  ·refine XK.weak (Weak.rsNil 0 16 (fun i=>clC (([]:List Cl).getD i default)) hc rfl) ?_
   refine XK.w ?_
   refine XK.weak (Weak.frozen (k:=21) hN rfl rfl) ?_
   refine XK.w ?_
   refine XK.l ?_
   exact⟨rfl,rfl,fun i hi=>absurd hi (Nat.not_lt_zero _)⟩
 ·refine XK.c ?_ ?_<;>intro h1
  ·cases h1
  ·refine XK.w ?_
   refine XK.weak (Weak.frozen (k:=21) hN rfl rfl) ?_
   refine XK.w ?_
   refine XK.l ?_
   exact⟨rfl,Nat.zero_add _,fun i hi=>by cases i<;>rfl⟩
theorem cln_cnds (l:List Cnd) (hl:l.length≤1000000):Does Tryz.prog 125 [cndsV l] (cndsV l):=by
 refine Does.mk (fun d=>Nat.beq d 5) TT_ok Tryz.func125 rfl (by kernel_rfl) Tryz.ntmps125 rfl rfl fun E hT hE hN hR=>?_
 have hm:=mixO hE
 by_cases h0:l.length=0
 ·obtain rfl:l=[]:=List.length_eq_zero_iff.1 h0
  refine XK.rsNil 0 rfl fun A cap hc=>?_
  refine XK.c ?_ ?_<;>intro h1
  ·refine XK.w ?_
   refine XK.weak (Weak.rsNil 2 2 (fun i=>cndC (([]:List Cnd).getD i default)) (Nat.zero_le _) rfl) ?_
   refine XK.w ?_
   refine XK.q ?_
   rfl
  ·refine XK.weak (Weak.rsNil 0 2 (fun i=>cndC (([]:List Cnd).getD i default)) hc rfl) ?_
   refine XK.w ?_
   refine XK.weak (Weak.frozen (k:=21) hN rfl rfl) ?_
   refine XK.w ?_
   refine XK.l ?_
   exact⟨rfl,rfl,fun i hi=>absurd hi (Nat.not_lt_zero _)⟩
 ·refine XK.c ?_ ?_<;>intro h1
  ·cases h1
  ·refine XK.w ?_
   refine XK.weak (Weak.frozen (k:=21) hN rfl rfl) ?_
   refine XK.w ?_
   refine XK.l ?_
   exact⟨rfl,Nat.zero_add _,fun i hi=>by cases i<;>rfl⟩
theorem clnM_cls (l:List Cl) (h0:0<l.length) (hl:l.length≤1000000):DoesM Tryz.prog 144 [clsV l] [] (.vec 0 0) [.vec 61 16 0 l.length (fun i=>clC (l.getD i default))]:=by
 refine DoesM.mk (fun d=>Nat.beq d 5) 100 TT_ok Tryz.func144 rfl (by kernel_rfl) Tryz.ntmps144 rfl rfl rfl fun E hT hE hN hR=>?_
 have hm:=mixO hE
 refine XK.c ?_ ?_<;>intro h1
 ·cases h1
 ·refine XK.w ?_
  refine XK.weak (Weak.trans (Weak.stamp (k:=121) (t:=0) hN rfl rfl) (Weak.of (L:=[(2,.vec 121 0)]) (O:=[(121,.vec 61 16 0 l.length (fun i=>clC (l.getD i default)))]) (nx:=1000) (nt:=8) (md:=fun _=>false) hN rfl rfl rfl frI ⟨⟨rfl,rfl,rfl⟩,Nat.zero_add _,fun j hj=>by rcases j with _|j<;>rfl⟩)) ?_
  refine XK.t [121] ?_ ?_
  ·exact frI
  ·exact frI
end
section
open Go.Eng
noncomputable def seenB (k:K) (p:Int) (l:List Int) (i:Nat):Bool:=l.getD i default==-1||SeesR k (runE k l i).1 p (l.getD i default)
noncomputable def seenL (k:K) (p:Int) (l:List Int):Nat→List Int
 |0=>[]
 |i+1=>if seenB k p l i=true then seenL k p l i++[l.getD i default] else seenL k p l i
theorem seenL_pre (k:K) (p:Int) (l:List Int) (i:Nat):∀m,i≤m→∃r,seenL k p l m=seenL k p l i++r
 |0,h=>⟨[],by have:i=0:=by omega
              subst this;rfl⟩
 |m+1,h=>by
  by_cases e:i=m+1
  ·exact⟨[],by rw[e,List.append_nil]⟩
  ·obtain⟨r,hr⟩:=seenL_pre k p l i m (by omega)
   rw[seenL]
   split
   ·exact⟨r++[l.getD m default],by rw[hr,List.append_assoc]⟩
   ·exact⟨r,hr⟩
theorem bel_true {k:K} (hF:KFacts k) {p:Int} (hp:0≤p∧p<k.parties) {l:List Int} (hok:∀j,j≤l.length→(runE k l j).2=0) {B:Nat→St→Prop} (h0:B 0 (runE k l 0).1)
  (hcl:∀j s (a:Nat),B j s→hidB k s p a=true→(stepS k s (a:Int)).2=0→B j (stepS k s (a:Int)).1)
  (hst:∀j,j<(seenL k p l l.length).length→∀s,B j s→(stepS k s ((seenL k p l l.length).getD j default)).2=0→((seenL k p l l.length).getD j default=-1∨SeesR k s p ((seenL k p l l.length).getD j default)=true)→B (j+1) (stepS k s ((seenL k p l l.length).getD j default)).1):
  ∀i,i≤l.length→B (seenL k p l i).length (runE k l i).1
 |0,_=>h0
 |i+1,hi=>by
  have ih:=bel_true hF hp hok h0 hcl hst i (by omega)
  have e:=runE_step (hok i (by omega))
  have hs:=hok (i+1) hi
  rw[e] at hs ⊢
  rw[seenL]
  by_cases hb:seenB k p l i=true
  ·rw[if_pos hb]
   obtain⟨r,hr⟩:=seenL_pre k p l (i+1) l.length hi
   rw[seenL,if_pos hb] at hr
   have hj:(seenL k p l i).length<(seenL k p l l.length).length:=by rw[hr];simp
   have hv:(seenL k p l l.length).getD (seenL k p l i).length default=l.getD i default:=by
    rw[hr,List.append_assoc]
    simp[List.getD]
   have:=hst _ hj _ ih (by rw[hv];exact hs) (by
    rw[hv]
    unfold seenB at hb
    simpa using hb)
   rw[hv] at this
   rw[List.length_append]
   exact this
  ·rw[if_neg hb]
   unfold seenB at hb
   simp only[Bool.or_eq_true,beq_iff_eq,not_or,Bool.not_eq_true] at hb
   obtain⟨b1,b2⟩:=hb
   obtain⟨g1,g2,g3,-⟩:=stepS_good hs
   have ea:((l.getD i default).toNat:Int)=l.getD i default:=by omega
   generalize l.getD i default=t at*
   rw[←ea] at hs b2 ⊢
   rcases hid_or_same hF hp hs b2 with q|q
   ·exact hcl _ _ _ ih q hs
   ·rw[q];exact ih
end
section
open Go.Eng
abbrev Pj:=St×List Int×Int
noncomputable def pjF (k:K) (ps:List Int) (p:Pj) (z:Int):Pj:=
 if(stepS k p.1 z).2≠0 then(p.1,p.2.1,(stepS k p.1 z).2) else((stepS k p.1 z).1,if(z==-1||someB k ps p.1 z.toNat)=true then p.2.1++[z] else p.2.1,0)
noncomputable def pjT (k:K) (ps:List Int) (l:List Int):Nat→Pj
 |0=>((startS k).1,[],0)
 |i+1=>if(pjT k ps l i).2.2≠0 then pjT k ps l i else pjF k ps (pjT k ps l i) (l.getD i default)
theorem pjT_stop {k:K} {ps l:List Int} {i:Nat} (h:(pjT k ps l i).2.2≠0):∀j,i≤j→pjT k ps l j=pjT k ps l i:=by
 intro j hj
 induction j with
 |zero=>obtain rfl:i=0:=by omega
        rfl
 |succ j ih=>
  by_cases e:i=j+1
  ·subst e;rfl
  ·have:=ih (by omega)
   rw[pjT,this,if_pos h]
theorem pjT_len (k:K) (ps l:List Int):∀i,(pjT k ps l i).2.1.length≤i
 |0=>Nat.le_refl _
 |i+1=>by
  have ih:=pjT_len k ps l i
  rw[pjT]
  split
  ·omega
  ·unfold pjF
   split
   ·show(pjT k ps l i).2.1.length≤_
    omega
   ·show(if _ then _ else _:List Int).length≤_
    split
    ·simp;omega
    ·omega
def pjO (r:List Int) (e:Int):List Ob:=[.cells 22 [.vec 2 (2*r.length)],.vec 3 1 (2*r.length) r.length (fun i=>[.c (.int .i64 (r.getD i default))]),.cells 22 [.c (.slice none 0 0)],.cells 32 [.c (.int .i64 e)]]
def jfnV (k:K) (ps:List Int):AV:=.fn (.func 40) [] [.rptr [intsV ps],.rptr (kC k)]
def pjCs (k:K) (ps:List Int):List AV:=frL 36 [(5,.rptr [jfnV k ps]),(6,.ptr 3 0),(7,.ptr 4 0),(8,.ptr 1 0)]
def momV (z:Int) (s:St):AV:=.agg (.c (.int .i64 z)::stC s)
theorem run_ok (k:K) (l:List Int):Does Tryz.prog 67 [kV k,intsV l] (.fn (.func 110) [] [.rptr (kC k),.rptr [intsV l]]):=by
 refine Does.mk (fun _=>false) TT_ok Tryz.func67 rfl (by kernel_rfl) Tryz.ntmps67 rfl rfl fun E hT hE hN hR=>?_
 have hm:=mixO hE
 refine XK.w ?_
 refine XK.weak (Weak.trans (Weak.frozenC (k:=2) hN rfl rfl rfl) (Weak.frozenC (k:=3) hN rfl rfl rfl)) ?_
 refine XK.q ?_
 rfl
theorem run1_ok (k:K) (hk:kW k) (h0:(startS k).2=0) (ps l:List Int) (hl:l.length≤4000) (L b:Nat) (mk:LoopState→Option Code→Array Value→Obj) (mkE:Array Value→Obj)
  (hY:∀i,i<l.length→(pjT k ps l i).2.2=0→DoesR Tryz.prog L [momV (l.getD i default) (pjT k ps l i).1,.c (.int .i64 (stepS k (pjT k ps l i).1 (l.getD i default)).2)] (.lrec (mk .ready none) b (pjCs k ps)::pjO (pjT k ps l i).2.1 (pjT k ps l i).2.2)
   (.c (.bool (decide ((pjT k ps l (i+1)).2.2=0)))) (.lrec (if(pjT k ps l (i+1)).2.2=0 then mk .ready none else mk .done (some .ret)) b (pjCs k ps)::pjO (pjT k ps l (i+1)).2.1 (pjT k ps l (i+1)).2.2))
  (hE:(if(pjT k ps l l.length).2.2=0 then mk .ready none else mk .done (some .ret))=mkE):
  DoesM Tryz.prog 110 [.fn (.yield L) [] [],.rptr (kC k),.rptr [intsV l]] (.lrec (mk .ready none) b (pjCs k ps)::pjO [] 0) (.tup []) (.lrec mkE b (pjCs k ps)::pjO (pjT k ps l l.length).2.1 (pjT k ps l l.length).2.2):=by
 subst hE
 refine DoesM.mk (fun _=>false) 100 TT_ok Tryz.func110 rfl (by kernel_rfl) Tryz.ntmps110 rfl rfl rfl fun E hT hE hN hR=>?_
 have hm:=mixO hE
 refine XK.r ?_
 refine XL.callKA hE rfl rfl rfl rfl trivial rfl rfl (startS_ok k hk) ?_
 refine XL.e ?_
 refine XK.c ?_ ?_<;>intro h1<;>try simp at h1
 ·exact absurd h0 h1
 ·refine XK.w ?_
  refine XK.loop (ι:=Nat) (fun i=>ST.of [(0,.fn (.yield L) [] []),(1,.rptr (kC k)),(4,.ptr 104 0),(21,intsV l),(22,.c (.int .i64 l.length)),(23,.c (.int .i64 i))]
    [(0,.lrec (mk .ready none) b (pjCs k ps)),(104,.cells 44 (stC (pjT k ps l i).1)),(1,.cells 22 [.vec 2 (2*(pjT k ps l i).2.1.length)]),(2,.vec 3 1 (2*(pjT k ps l i).2.1.length) (pjT k ps l i).2.1.length (fun j=>[.c (.int .i64 ((pjT k ps l i).2.1.getD j default))])),(3,.cells 22 [.c (.slice none 0 0)]),(4,.cells 32 [.c (.int .i64 (pjT k ps l i).2.2)])] 1000 47 (fun _=>false))
   (fun i=>i≤l.length∧(pjT k ps l i).2.2=0) (fun i=>l.length-i) 0 ⟨Nat.zero_le _,rfl⟩
   (Weak.of hN rfl rfl rfl frI frI) fun i hi=>?_
  obtain⟨hi,he⟩:=hi
  refine XK.c ?_ ?_<;>intro hlt<;>try simp at hlt
  ·have hYi:=hY i hlt he
   have hT1:pjT k ps l (i+1)=pjF k ps (pjT k ps l i) (l.getD i default):=by rw[pjT,if_neg (by simpa using he)]
   have hstop:=fun h=>pjT_stop (k:=k) (ps:=ps) (l:=l) (i:=i+1) h l.length hlt
   have f1:l.getD (i:Int).toNat default=l.getD i default:=rfl
   have hT2:((pjT k ps l (i+1)).2.2=0↔(stepS k (pjT k ps l i).1 (l.getD i default)).2=0)∧((stepS k (pjT k ps l i).1 (l.getD i default)).2=0→(pjT k ps l (i+1)).1=(stepS k (pjT k ps l i).1 (l.getD i default)).1):=by
    rw[hT1]
    unfold pjF
    split
    ·rename_i h
     exact⟨Iff.rfl,fun h2=>absurd h2 h⟩
    ·rename_i h
     exact⟨⟨fun _=>by simpa using h,fun _=>rfl⟩,fun _=>rfl⟩
   have hst:=stepS_ok k hk (pjT k ps l i).1 (l.getD i default)
   generalize h2:pjT k ps l (i+1)=t2 at*
   generalize h1:pjT k ps l i=t1 at*
   generalize l.getD i default=z at*
   generalize stepS k t1.1 z=q at*
   clear hT1
   obtain⟨s,r,e⟩:=t1
   dsimp only at*
   subst he
   refine XK.w ?_
   rw[f1]
   refine XK.r ?_
   refine XL.callKA hE rfl rfl rfl rfl trivial rfl rfl (hst) ?_
   refine XL.e ?_
   refine XK.r ?_
   ((refine XL.yieldM [0,1,2,3,4] hE rfl rfl rfl rfl trivial (hYi) rfl ?_ rfl ?_ rfl rfl rfl ?_);(focus (repeat' (first|exact rfl|exact AvIs.refl _|exact trivial|(intro i hi;rfl)|exact fun _ _=>⟨rfl,AvIs.refl _⟩|(intro i hi;rcases i with _|_|_|_|_|_|_|i<;>first|rfl|exact absurd hi (by simp;done)|(simp at hi;omega))|refine⟨?_,?_⟩)));(focus (repeat' (first|exact rfl|exact AvIs.refl _|exact trivial|(intro i hi;rfl)|exact fun _ _=>⟨rfl,AvIs.refl _⟩|(intro i hi;rcases i with _|_|_|_|_|_|_|i<;>first|rfl|exact absurd hi (by simp;done)|(simp at hi;omega))|refine⟨?_,?_⟩))))
   refine XL.e ?_
   refine XK.c ?_ ?_<;>intro h7
   ·have h7:t2.2.2≠0:=by
     intro h
     have:=hT2.1.1 h
     simp[h,this] at h7
    rw[hstop h7]
    refine XK.w ?_
    refine XK.t [0,1,2,3,4] ?_ ?_
    ·exact frI
    ·exact frI
   ·have h8:t2.2.2=0:=by
     simp at h7
     omega
    have h9:=hT2.2 (hT2.1.1 h8)
    rw[if_pos h8]
    refine XK.w ?_
    refine XK.inv ⟨i+1,⟨hlt,by rw[h2];exact h8⟩,?_,by omega⟩
    rw[h2,h9]
    exact(Weak.of hN rfl rfl rfl frI frI)
  ·have hie:i=l.length:=by omega
   subst hie
   rw[if_pos he]
   refine XK.w ?_
   refine XK.t [0,1,2,3,4] ?_ ?_
   ·exact frI
   ·exact frI
theorem ints_app1 (L:List Int) (x:Int) (h:Nat→List AV) (hx:h 0=[.c (.int .i64 x)]):∀j,j<L.length+1→[AV.c (.int .i64 ((L++[x]).getD j default))]=catF L.length (fun i=>[AV.c (.int .i64 (L.getD i default))]) h j:=by
 intro j hj
 unfold catF
 by_cases h1:j<L.length
 ·have:Nat.blt j L.length=true:=by simpa using h1
  rw[this,cond_true]
  simp[List.getD,List.getElem?_append_left h1]
 ·have:Nat.blt j L.length=false:=by
   cases hb:Nat.blt j L.length with
   |false=>rfl
   |true=>simp at hb;exact absurd hb h1
  have e:j=L.length:=by omega
  rw[this,cond_false,e,Nat.sub_self,hx]
  simp[List.getD]
noncomputable def seenR (k:K) (ps l:List Int):List Int×Int:=if(pjT k ps l l.length).2.2=0 then((pjT k ps l l.length).2.1,0) else([],(pjT k ps l l.length).2.2)
theorem seenGo_ok (k:K) (hk:kW k) (h0:(startS k).2=0) (ps l:List Int) (hl:l.length≤4000):Does Tryz.prog 39 [kV k,intsV l,jfnV k ps] (.tup [intsV (seenR k ps l).1,.c (.int .i64 (seenR k ps l).2)]):=by
 refine Does.mk (fun _=>false) TT_ok Tryz.func39 rfl (by kernel_rfl) Tryz.ntmps39 rfl rfl fun E hT hE hN hR=>?_
 have hm:=mixO hE
 iterate 4 (first|refine XK.n ?_|refine XK.a ?_|refine XK.b ?_)
 refine XK.r ?_
 refine XL.callKA hE rfl rfl rfl rfl trivial rfl rfl (run_ok k l) ?_
 refine XL.e ?_
 unfold seenR
 generalize hst:pjT k ps l l.length=sE
 have hsE:sE=pjT k ps l l.length:=hst.symm
 refine XK.weak (Weak.trans (Weak.frozenC (k:=5) hN rfl rfl rfl) (Weak.trans (Weak.ghostC (c:=44) (k:=45) (e:=3) (sz:=1) (f:=fun _=>[]) rfl rfl rfl)
  (Weak.of (L:=[(5,.rptr [jfnV k ps]),(6,.ptr 6 0),(7,.ptr 7 0),(8,.ptr 44 0),(13,.fn (.func 110) [] [.rptr (kC k),.rptr [intsV l]])])
   (O:=[(44,.cells 22 [.vec 45 0]),(45,.vec 3 1 0 0 (fun i=>[.c (.int .i64 (([]:List Int).getD i default))])),(6,.cells 22 [.c (.slice none 0 0)]),(7,.cells 32 [.c (.int .i64 0)])]) (nx:=2000) (nt:=36) (md:=fun _=>false) hN rfl rfl rfl frI (by(repeat' (first|exact rfl|exact AvIs.refl _|exact trivial|exact fun _ _=>rfl|exact fun _ _=>⟨rfl,AvIs.refl _⟩|exact cI (by omega)|exact(fun i hi=>absurd hi (Nat.not_lt_zero _))|refine⟨?_,?_⟩)))))) ?_
 refine XK.rangeFunc 900 [44,45,6,7] (frL 36 [(5,.rptr [jfnV k ps]),(6,.ptr 6 0),(7,.ptr 7 0),(8,.ptr 44 0)])
  (ST.of [(6,.ptr 6 0),(7,.ptr 7 0),(8,.ptr 44 0)] [(44,.cells 22 [.vec 45 (2*sE.2.1.length)]),(45,.vec 3 1 (2*sE.2.1.length) sE.2.1.length (fun i=>[.c (.int .i64 (sE.2.1.getD i default))])),(6,.cells 22 [.c (.slice none 0 0)]),(7,.cells 32 [.c (.int .i64 sE.2.2)])] 3000 36 (fun _=>false))
  (res:=.tup []) (args':=[.rptr (kC k),.rptr [intsV l]]) (s:=if sE.2.2=0 then .ready else .done) (pend:=if sE.2.2=0 then none else some .ret) (O':=pjO sE.2.1 sE.2.2) (O:=pjO [] 0) hR rfl trivial rfl (frL_length _ _) (frL_is frI) (fun L D fn=>?_) rfl frI rfl rfl frI rfl rfl (by split<;>simp) (fun L D fn cs=>(Weak.of hN rfl rfl rfl frI frI)) ?_
 ·rw[hsE,hE]
  refine run1_ok k hk h0 ps l hl L L (recOf fn _ _ _ D) _ (fun i hi he=>?_) ?_
  rotate_left
  ·split<;>rfl
  have hT1:pjT k ps l (i+1)=pjF k ps (pjT k ps l i) (l.getD i default):=by rw[pjT,if_neg (by simpa using he)]
  have hlen:=pjT_len k ps l i
  have hsc:=stepS_cases hk (pjT k ps l i).1 (l.getD i default)
  rw[hT1]
  clear hT1 hst hsE
  generalize pjT k ps l i=t1 at*
  generalize l.getD i default=z at*
  obtain⟨s,r,e⟩:=t1
  dsimp only at he hlen hsc
  subst he
  unfold pjF
  dsimp only
  generalize stepS k s z=q at*
  refine DoesR.mkT TT_ok (fun _=>false) 100 (ST.of [(5,.rptr [jfnV k ps]),(6,.ptr 3 0),(7,.ptr 4 0),(8,.ptr 1 0),(9,.ptr 109 0),(10,.c (.int .i64 q.2))]
   [(0,.lrec (recOf fn _ _ _ D .ready none) L (pjCs k ps)),(1,.cells 22 [.vec 2 (2*r.length)]),(2,.vec 3 1 (2*r.length) r.length (fun i=>[.c (.int .i64 (r.getD i default))])),(3,.cells 22 [.c (.slice none 0 0)]),(4,.cells 32 [.c (.int .i64 0)]),(109,.cells 141 (.c (.int .i64 z)::stC s))] 1000 36 (fun _=>false)) rfl ?_ (Nat.le_refl 4) (fun E hT hE hN hR=>?_) rfl (fun E hT hE hN hR=>?_)
  ·intro x hx
   have hx:x=14∨x=15:=by simpa using hx
   rcases hx with rfl|rfl
   ·show 14<(frL 36 _).length
    rw[frL_length]
    omega
   ·show 15<(frL 36 _).length
    rw[frL_length]
    omega
  ·have hm:=mixO hE
   refine XK.w ?_
   exact XK.nil ⟨rfl,(Weak.of hN rfl rfl rfl frI frI)⟩
  ·have hm:=mixO hE
   refine XK.c ?_ ?_<;>intro h5<;>try simp at h5
   ·rw[if_pos h5]
    refine XK.w ?_
    (first|refine XK.outY [0,1,2,3,4] hN rfl rfl rfl ?_ ?_ ?_|refine XK.outYN [0,1,2,3,4] hN rfl rfl rfl ?_ ?_ ?_)
    ·exact frI
    ·simp[h5]
    ·show _=if q.2=0 then _ else _
     rw[if_neg h5]
   ·rw[if_neg (by simpa using h5)]
    have hj:(z==-1)=false→Does Tryz.prog 40 [stV s,.c (.int .i64 z),.rptr [intsV ps],.rptr (kC k)] (.c (.bool (someB k ps s z.toNat))):=fun h=>by
     have hz:z≠-1:=by simpa using h
     rcases hsc with⟨_,h⟩|⟨_,_,h⟩|⟨⟨hv,h1,h2⟩,_⟩
     ·rw[h] at h5;cases h5
     ·rw[h] at h5;cases h5
     ·have hl:=validS_len hv
      have:=j2_ok k (show kOk k from⟨hk,hl.1⟩).facts ps s hl.2.1 z.toNat (by omega)
      rwa[Int.toNat_of_nonneg (by omega)] at this
    refine XK.r ?_
    refine XL.callLG hE rfl rfl rfl rfl rfl rfl rfl (by first|(simp[AllP,impG];done)|(simp only[AllP,impG];grind)) rfl (fun hgd=>⟨hj (by simpa using hgd),(by(repeat' (first|exact rfl|exact AvIs.refl _|exact trivial|(intro i hi;rfl)|exact fun _ _=>⟨rfl,AvIs.refl _⟩|(intro i hi;rcases i with _|_|_|_|_|_|_|i<;>first|rfl|exact absurd hi (by simp;done)|(simp at hi;omega))|refine⟨?_,?_⟩)))⟩) rfl ?_
    refine XL.e ?_
    refine XK.c ?_ ?_<;>intro h6
    ·have h6:(z==-1||someB k ps s z.toNat)=true:=h6
     rw[if_pos h6]
     refine XK.weak (Weak.trans (Weak.steal 500 (k:=2) (s:=2*r.length) (f':=fun _=>[]) hN rfl rfl rfl) (Weak.of (L:=[(6,.ptr 3 0),(7,.ptr 4 0),(8,.ptr 1 0),(9,.ptr 109 0)])
      (O:=[(0,.lrec (recOf fn _ _ _ D .busy none) L (pjCs k ps)),(1,.cells 22 [.vec 500 0]),(2,.vec 3 1 (2*r.length+1) 0 (fun _=>[])),(3,.cells 22 [.c (.slice none 0 0)]),(4,.cells 32 [.c (.int .i64 0)]),(500,.vec 3 1 0 r.length (fun i=>[.c (.int .i64 (r.getD i default))])),(109,.cells 141 (.c (.int .i64 z)::stC s))]) (nx:=3000) (nt:=36) (md:=fun _=>false) hN rfl rfl rfl frI ⟨⟨rfl,rfl,rfl⟩,⟨rfl,congrArg (fun x=>[x]) (stealG_self 2 (2*r.length) 500)⟩,frI,frI,frI,frI,frI⟩)) ?_
     refine XK.w ?_
     refine XK.nilY (Weak.give (k:=2) (q:=500) (2*(r.length+1)) hN rfl rfl rfl rfl (by omega)) ?_
     (first|refine XK.outY [0,1,2,3,4] hN rfl rfl rfl ?_ ?_ ?_|refine XK.outYN [0,1,2,3,4] hN rfl rfl rfl ?_ ?_ ?_)
     ·exact⟨⟨rfl,rfl,rfl⟩,⟨rfl,by simp⟩,⟨⟨rfl,rfl,by simp⟩,by simp,ints_app1 r _ _ rfl⟩,frI,frI⟩
     ·rfl
     ·rfl
    ·have h6:(z==-1||someB k ps s z.toNat)=false:=h6
     rw[if_neg (by rw[h6];simp)]
     refine XK.w ?_
     (first|refine XK.outY [0,1,2,3,4] hN rfl rfl rfl ?_ ?_ ?_|refine XK.outYN [0,1,2,3,4] hN rfl rfl rfl ?_ ?_ ?_)
     ·exact frI
     ·rfl
     ·rfl
 ·by_cases herr:sE.2.2=0
  ·rw[if_pos herr,if_pos herr]
   generalize sE.2.1=PL at*
   refine XK.weak (Weak.trans (Weak.stamp (k:=45) (t:=0) hN rfl rfl) (Weak.trans (Weak.of (L:=[(6,.ptr 6 0),(7,.ptr 7 0),(8,.ptr 44 0)])
    (O:=[(44,.cells 22 [.vec 45 0]),(45,.vec 3 1 0 PL.length (fun i=>[.c (.int .i64 (PL.getD i default))])),(6,.cells 22 [.c (.slice none 0 0)]),(7,.cells 32 [.c (.int .i64 sE.2.2)])]) (nx:=4000) (nt:=36) (md:=fun _=>false) hN rfl rfl rfl frI ⟨⟨rfl,congrArg (fun x=>[x]) (stampG_self 45 (2*PL.length) 0)⟩,frI,frI,frI⟩) (Weak.frozen (k:=45) hN rfl rfl))) ?_
   refine XK.w ?_
   refine XK.q ?_
   rfl
  ·rw[if_neg herr,if_neg herr]
   show XK E [.code .ret,_,_] _ _
   refine XK.w ?_
   refine XK.l ?_
   exact⟨⟨rfl,rfl⟩,rfl⟩
end
section
open Go.Eng
def badPs (k:K) (ps:List Int):Bool:=(ps.length:Int)==0||decide ((12:Int)<ps.length)||ps.any (strB k)
noncomputable def jointR (k:K) (l ps:List Int):List Int×Int:=
 if(startS k).2≠0 then([],1) else if badPs k ps=true then([],1) else if 4000<l.length then([],3) else seenR k ps l
def lr (r:List Int×Int):AV:=.tup [intsV r.1,.c (.int .i64 r.2)]
theorem joint_ok (k:K) (hk:kW k) (l ps:List Int):Does Tryz.prog 17 [kV k,intsV l,intsV ps] (lr (jointR k l ps)):=by
 refine Does.mk (fun _=>false) TT_ok Tryz.func17 rfl (by kernel_rfl) Tryz.ntmps17 rfl rfl fun E hT hE hN hR=>?_
 have hm:=mixO hE
 refine XK.fact (Sat.rs_len (j:=1) rfl) fun hlen=>?_
 have hm1:l.length≤9223372036854775807:=hlen.1
 refine XK.fact (Sat.rs_len (j:=2) rfl) fun hlen2=>?_
 have hm2:ps.length≤9223372036854775807:=hlen2.1
 refine XK.r ?_
 refine XL.callKA hE rfl rfl rfl rfl trivial rfl rfl (startS_ok k hk) ?_
 refine XL.e ?_
 unfold jointR
 refine XK.c ?_ ?_<;>intro h1<;>try simp at h1
 ·rw[if_pos h1]
  refine XK.w ?_
  refine XK.l ?_
  exact⟨⟨rfl,rfl⟩,rfl⟩
 ·rw[if_neg (by simpa using h1)]
  refine XK.weak (Weak.trans (Weak.frozenC (k:=3) hN rfl rfl rfl) (Weak.trans (Weak.frozenC (k:=5) hN rfl rfl rfl) (Weak.of (L:=[(1,intsV l),(3,.rptr (kC k)),(5,.rptr [intsV ps])]) (O:=[]) (nx:=1000) (nt:=41) (md:=fun _=>false) hN rfl rfl rfl frI frI))) ?_
  have hcf:=containsJ_ok k ps (strB k) (fun i hi=>str_ok k _)
  iterate 2 (first|refine XK.n ?_|refine XK.a ?_|refine XK.b ?_)
  refine XK.r ?_
  refine XL.callGA hE rfl rfl rfl rfl rfl rfl rfl rfl (hcf) rfl ?_
  refine XL.e ?_
  refine XK.c ?_ ?_<;>intro h2
  ·rw[if_pos (show badPs k ps=true from h2)]
   refine XK.w ?_
   refine XK.l ?_
   exact⟨⟨rfl,rfl⟩,rfl⟩
  ·have h2:badPs k ps=false:=h2
   rw[if_neg (by rw[h2];simp)]
   refine XK.c ?_ ?_<;>intro h3<;>try simp at h3
   ·rw[if_pos (by omega)]
    refine XK.w ?_
    refine XK.l ?_
    exact⟨⟨rfl,rfl⟩,rfl⟩
   ·rw[if_neg (by omega)]
    refine XK.w ?_
    refine XK.r ?_
    refine XL.callKA hE rfl rfl rfl rfl trivial rfl rfl (seenGo_ok k hk h1 ps l (by omega)) ?_
    refine XL.e ?_
    refine XK.q ?_
    rfl
theorem view_ok (k:K) (hk:kW k) (l:List Int) (p:Int):Does Tryz.prog 8 [kV k,intsV l,.c (.int .i64 p)] (lr (jointR k l [p])):=by
 refine Does.mk (fun _=>false) TT_ok Tryz.func8 rfl (by kernel_rfl) Tryz.ntmps8 rfl rfl fun E hT hE hN hR=>?_
 have hm:=mixO hE
 refine XK.r ?_
 refine XL.callK hE rfl rfl rfl rfl trivial rfl rfl (joint_ok k hk l [p]) ?_ ?_
 ·exact⟨AvIs.refl _,AvIs.refl _,rfl,rfl,fun i hi=>by
   match i,hi with
   |0,_=>rfl⟩
 refine XL.e ?_
 refine XK.q ?_
 rfl
end
end Go.Proofs.YtgpkkllbejgmlaaGreatDoor
