import Derived.Test.YtgpkkllbejgmlaaGreatDoorZz14
import Derived.Test.YtgpkkllbejgmlaaGreatDoorZz28
import Derived.Test.YtgpkkllbejgmlaaGreatDoorZz17
set_option linter.unusedSimpArgs false
set_option linter.unusedVariables false
set_option maxRecDepth 10000
namespace Go.Proofs.YtgpkkllbejgmlaaGreatDoor
section
open Go.Eng Go.RowKit Go.Lib
def abO (ab:Nat→Nat):Ob:=.vec 215 1 0 400 (fun j=>[.c (.int .i64 (ab j:Nat))])
def setAb (ab:Nat→Nat) (i v:Nat):Nat→Nat:=fun x=>if x=i then v else ab x
def rc (ab:Nat→Nat):Nat→Nat→Nat×(Nat→Nat)
 |0,i=>(ab i,ab)
 |n+1,i=>if ab i≠i then((rc ab n (ab i)).1,setAb (rc ab n (ab i)).2 i (rc ab n (ab i)).1) else(ab i,ab)
structure Rep (N:Nat) (ab f:Nat→Nat):Prop where
 le:∀x,x<N→ab x≤x
 eq:∀x,x<N→f (ab x)=f x
 fix:∀x,x<N→ab x=x→f x=x
theorem Rep.rc {N:Nat} {ab f:Nat→Nat} (hf:RtOk f) (h:Rep N ab f):∀n i,i<N→i≤n→(rc ab n i).1=f i∧Rep N (rc ab n i).2 f
 |0,i,hi,hn=>by
  have:i=0:=by omega
  subst this
  have h0:ab 0=0:=by have:=h.le 0 hi;omega
  exact⟨by show ab 0=_;rw[h.fix 0 hi h0,h0],h⟩
 |n+1,i,hi,hn=>by
  rw[Go.Proofs.YtgpkkllbejgmlaaGreatDoor.rc]
  by_cases e:ab i=i
  ·rw[if_neg (by simpa using e)]
   exact⟨by show ab i=_;rw[e,h.fix i hi e],h⟩
  ·rw[if_pos e]
   have hle:=h.le i hi
   obtain⟨h1,h2⟩:=Rep.rc hf h n (ab i) (by omega) (by omega)
   dsimp only
   rw[h1,h.eq i hi]
   have hfl:=hf.le i
   refine⟨rfl,fun x hx=>?_,fun x hx=>?_,fun x hx q=>?_⟩
   ·unfold setAb
    by_cases e2:x=i
    ·rw[if_pos e2,e2];exact hfl
    ·rw[if_neg e2];exact h2.le x hx
   ·unfold setAb
    by_cases e2:x=i
    ·rw[if_pos e2,e2,hf.idem]
    ·rw[if_neg e2];exact h2.eq x hx
   ·unfold setAb at q
    by_cases e2:x=i
    ·rw[if_pos e2] at q;rw[e2] at q ⊢;exact q
    ·rw[if_neg e2] at q;exact h2.fix x hx q
theorem ab_set (N:Nat) (f:Nat→Nat) (i r:Nat) (h:Nat→List AV) (hh:h=setRowF (fun j=>[.c (.int .i64 (f j:Nat))]) (i:Int).toNat 0 [.c (.int .i64 r)]):∀j,j<N→[AV.c (.int .i64 (setAb f i r j:Nat))]=h j:=by
 intro j _
 subst hh
 unfold setRowF setAb
 have e:(i:Int).toNat=i:=by omega
 rw[e]
 by_cases q:j=i
 ·subst q
  rw[if_pos rfl,show Nat.beq j j=true by simp,cond_true]
  rfl
 ·rw[if_neg q,beq_false q,cond_false]
def rtO (ab:Nat→Nat):List Ob:=[abO ab,.cells 93 [.fn (.func 117) [] [.vptr 0 0 1 0 0,.ptr 1 0]]]
theorem rootC_ok (ab:Nat→Nat) (n i:Nat) (hi:i<400) (hab:ab i<400) (ih:ab i≠i→DoesM Tryz.prog 117 [.c (.int .i64 (ab i)),.vptr 0 0 1 0 0,.ptr 1 0] (rtO ab) (.c (.int .i64 (rc ab n (ab i)).1)) (rtO (rc ab n (ab i)).2)):
  DoesM Tryz.prog 117 [.c (.int .i64 i),.vptr 0 0 1 0 0,.ptr 1 0] (rtO ab) (.c (.int .i64 (rc ab (n+1) i).1)) (rtO (rc ab (n+1) i).2):=by
 rw[rc]
 have fx:ab (i:Int).toNat=ab i:=rfl
 refine DoesM.mk (fun _=>false) 100 TT_ok Tryz.func117 rfl (by kernel_rfl) Tryz.ntmps117 rfl rfl rfl fun E hT hE hN hR=>?_
 have hm:=mixO hE
 refine XK.c ?_ ?_<;>intro h1<;>try simp at h1
 ·rw[if_pos (by omega)]
  have ih:=ih (by omega)
  generalize rc ab n (ab i)=r at*
  refine XK.s ?_
  rw[fx]
  refine XD.callMA [0,1] hE rfl rfl rfl rfl trivial (ih) rfl rfl rfl rfl rfl ?_
  refine XD.e ?_
  refine XK.weak (Weak.of (L:=[(0,.c (.int .i64 i)),(1,.vptr 0 0 1 0 0),(2,.ptr 1 0)]) (O:=[(0,abO (setAb r.2 i r.1)),(1,.cells 93 [.fn (.func 117) [] [.vptr 0 0 1 0 0,.ptr 1 0]])]) (nx:=1000) (nt:=20) (md:=fun _=>false) hN rfl rfl rfl frI ⟨⟨⟨rfl,rfl,rfl⟩,rfl,ab_set 400 r.2 i r.1 _ rfl⟩,frI⟩) ?_
  have fy:setAb r.2 i r.1 (i:Int).toNat=r.1:=by unfold setAb;rw[if_pos (by omega)]
  refine XK.w ?_
  try rw[fy]
  refine XK.t [0,1] ?_ ?_
  ·exact frI
  ·exact frI
 ·rw[if_neg (by omega)]
  refine XK.w ?_
  try rw[fx]
  refine XK.t [0,1] ?_ ?_
  ·exact frI
  ·exact frI
theorem root_ok (ab:Nat→Nat) (hle:∀x,x<400→ab x≤x):∀(n i:Nat),i≤n→i<400→DoesM Tryz.prog 117 [.c (.int .i64 i),.vptr 0 0 1 0 0,.ptr 1 0] (rtO ab) (.c (.int .i64 (rc ab n i).1)) (rtO (rc ab n i).2)
 |0,i,hn,hi=>by
  have e:i=0:=by omega
  subst e
  have h0:ab 0=0:=by have:=hle 0 hi;omega
  have:=rootC_ok ab 0 0 hi (by omega) (fun h=>absurd h0 h)
  rw[rc,if_neg (by simpa using h0)] at this
  exact this
 |n+1,i,hn,hi=>by
  have h1:=hle i hi
  exact rootC_ok ab n i hi (by omega) (fun h=>root_ok ab hle n (ab i) (by omega) (by omega))
def rj (ab:Nat→Nat) (i:Nat):=rc ab 400 i
def jnA (ab:Nat→Nat) (i j:Nat):Nat→Nat:=
 setAb (rj (rj (rj (rj ab i).2 j).2 i).2 j).2 (max (rj (rj (rj ab i).2 j).2 i).1 (rj (rj (rj (rj ab i).2 j).2 i).2 j).1) (min (rj ab i).1 (rj (rj ab i).2 j).1)
theorem Rep.jn {N:Nat} {ab f:Nat→Nat} (hf:RtOk f) (hN:N≤400) (h:Rep N ab f) {i j:Nat} (hi:i<N) (hj:j<N):Rep N (jnA ab i j) (jn f i j):=by
 obtain⟨e1,h1⟩:=h.rc hf 400 i hi (by omega)
 obtain⟨e2,h2⟩:=h1.rc hf 400 j hj (by omega)
 obtain⟨e3,h3⟩:=h2.rc hf 400 i hi (by omega)
 obtain⟨e4,h4⟩:=h3.rc hf 400 j hj (by omega)
 unfold jnA rj
 rw[e1,e2,e3,e4]
 generalize (Go.Proofs.YtgpkkllbejgmlaaGreatDoor.rc (Go.Proofs.YtgpkkllbejgmlaaGreatDoor.rc (Go.Proofs.YtgpkkllbejgmlaaGreatDoor.rc (Go.Proofs.YtgpkkllbejgmlaaGreatDoor.rc ab 400 i).2 400 j).2 400 i).2 400 j).2=a at*
 have hfi:=hf.le i
 have hfj:=hf.le j
 have ii:=hf.idem i
 have jj:=hf.idem j
 have hmn:f (min (f i) (f j))=min (f i) (f j):=by
  rcases Nat.le_total (f i) (f j) with q|q
  ·rw[Nat.min_eq_left q,ii]
  ·rw[Nat.min_eq_right q,jj]
 have hmx:f (max (f i) (f j))=max (f i) (f j):=by
  rcases Nat.le_total (f i) (f j) with q|q
  ·rw[Nat.max_eq_right q,jj]
  ·rw[Nat.max_eq_left q,ii]
 have hle:min (f i) (f j)≤max (f i) (f j):=by omega
 have hju:∀x,Go.Proofs.YtgpkkllbejgmlaaGreatDoor.jn f i j x=if f x=max (f i) (f j) then min (f i) (f j) else f x:=fun x=>rfl
 generalize Go.Proofs.YtgpkkllbejgmlaaGreatDoor.jn f i j=g at*
 have hmlt:max (f i) (f j)<N:=by omega
 generalize min (f i) (f j)=u at*
 generalize max (f i) (f j)=v at*
 refine⟨fun x hx=>?_,fun x hx=>?_,fun x hx q=>?_⟩
 ·unfold setAb
  by_cases e:x=v
  ·rw[if_pos e];omega
  ·rw[if_neg e];exact h4.le x hx
 ·unfold setAb
  by_cases e:x=v
  ·rw[if_pos e,hju,hju,hmn,e,hmx,if_pos rfl]
   split<;>rfl
  ·rw[if_neg e,hju,hju,h4.eq x hx]
 ·unfold setAb at q
  by_cases e:x=v
  ·rw[if_pos e] at q
   rw[hju,e,hmx,if_pos rfl]
   omega
  ·rw[if_neg e] at q
   have:=h4.fix x hx q
   rw[hju,this,if_neg e]
section
variable {E:Env} {Q:Exit→ST→Prop} {ops:Array Oper} {rest:List Oper} {o:Oper} {k:List It} {tr0:List (EffM×(List Nat×List Nat))} {fr:Nat→AV} {ob:Nat→Option Ob} {nx nt:Nat} {md:Nat→Bool} {P:Program}
theorem _root_.Go.Eng.XD.callMT (K:List Nat) (kr:Nat) {f d:Nat} {args args1 args':List AV} {res res1:AV} {O O':List Ob} {p0:Nat×Ob} {x:Ob} (hE:E.P=P) (hc:callF ⟨fr,ob,nx,nt,md⟩ o.op=some (f,args)) (hg:o.guard=none) (hds:o.dst=some d) (hdl:Nat.blt d nt=true) (ho:AllP (o.op.operands.toList.flatMap (fun x=>oblG none (ST.ev ⟨fr,ob,nx,nt,md⟩ x))))
  (hP:DoesM P f args' O res O') (hfa:frcL (AV.mapL (renG (posF (K.take O.length))) args)=some args1) (ha:AvIsL args1 args') (hd:nodupB K=true)
  (hv:ViewIs ob (posF (K.take O.length)) (K.take O.length) O) (hnew:(K.drop O.length).all (fun k=>(ob k).isNone)=true) (hob:backF (renG (fun i=>K[i]?)) K O'=some [p0,(kr,x)]) (hres:frc (res.map (renG (fun i=>K[i]?)))=some res1)
  (hkr:kr∈K) (hx:ob kr=some x)
  (h:XD E ops Q k (tr0++[(⟨res1,[p0]⟩,fpK ops.toList o K)]) rest ⟨upd fr d res1,putAll ob [p0],nx,nt,md⟩):XD E ops Q k tr0 (o::rest) ⟨fr,ob,nx,nt,md⟩:=by
 have hl:=LocalM.callM (E:=E) (ops:=ops) (st:=⟨fr,ob,nx,nt,md⟩) hc hg (by simp[dstOk,hds,hdl]) ho (hE▸hP) hfa ha hd hv hnew hob hres
 refine XD.stepM (eff:=⟨res1,[p0]⟩) (fp:=fpK ops.toList o K) (fun s' hag=>?_) (by rw[hds];exact h)
 have h1:=hl s' hag
 have h2:s'.ob kr=some x:=(hag.2.2.2.2 kr hkr).trans hx
 have h3:upd s'.ob kr (some x)=s'.ob:=by
  funext j
  by_cases e:j=kr
  ·subst e;rw[upd_same,h2]
  ·rw[upd_other _ _ e]
 have h4:s'.appM o.dst ⟨res1,[p0,(kr,x)]⟩=s'.appM o.dst ⟨res1,[p0]⟩:=by
  obtain⟨k0,o0⟩:=p0
  show ST.mk _ (upd (upd s'.ob kr (some x)) k0 (some o0)) _ _ _=ST.mk _ (upd s'.ob k0 (some o0)) _ _ _
  rw[h3]
 rw[h4] at h1
 exact h1
end
theorem joinC_ok (ab:Nat→Nat) (i j:Nat) (r1 r2 r3 r4:Nat×(Nat→Nat)) (hr:r3.1<400∧r4.1<400)
  (c1:DoesM Tryz.prog 117 [.c (.int .i64 i),.vptr 0 0 1 0 0,.ptr 1 0] (rtO ab) (.c (.int .i64 r1.1)) (rtO r1.2))
  (c2:DoesM Tryz.prog 117 [.c (.int .i64 j),.vptr 0 0 1 0 0,.ptr 1 0] (rtO r1.2) (.c (.int .i64 r2.1)) (rtO r2.2))
  (c3:DoesM Tryz.prog 117 [.c (.int .i64 i),.vptr 0 0 1 0 0,.ptr 1 0] (rtO r2.2) (.c (.int .i64 r3.1)) (rtO r3.2))
  (c4:DoesM Tryz.prog 117 [.c (.int .i64 j),.vptr 0 0 1 0 0,.ptr 1 0] (rtO r3.2) (.c (.int .i64 r4.1)) (rtO r4.2)):
  DoesM Tryz.prog 118 [.c (.int .i64 i),.c (.int .i64 j),.ptr 1 0,.vptr 0 0 1 0 0] (rtO ab) (.tup []) (rtO (setAb r4.2 (max r3.1 r4.1) (min r1.1 r2.1))):=by
 refine DoesM.mk (fun _=>false) 100 TT_ok Tryz.func118 rfl (by kernel_rfl) Tryz.ntmps118 rfl rfl rfl fun E hT hE hN hR=>?_
 have hm:=mixO hE
 refine XK.s ?_
 refine XD.callMT [0,1] 1 hE rfl rfl rfl rfl trivial (c1) rfl frI rfl frI rfl rfl rfl (by simp) rfl ?_
 refine XD.g ?_
 refine XD.callMT [0,1] 1 hE rfl rfl rfl rfl trivial (c2) rfl frI rfl frI rfl rfl rfl (by simp) rfl ?_
 refine XD.g ?_
 refine XD.callMT [0,1] 1 hE rfl rfl rfl rfl trivial (c3) rfl frI rfl frI rfl rfl rfl (by simp) rfl ?_
 refine XD.g ?_
 refine XD.callMT [0,1] 1 hE rfl rfl rfl rfl trivial (c4) rfl frI rfl frI rfl rfl rfl (by simp) rfl ?_
 refine XD.e ?_
 refine XK.t [0,1] ?_ ?_
 ·refine⟨⟨⟨rfl,rfl,rfl⟩,rfl,fun x hx=>?_⟩,frI⟩
  refine Eq.trans (ab_set 400 r4.2 (max r3.1 r4.1) (min r1.1 r2.1) _ rfl x hx) ?_
  rw[show((max r3.1 r4.1:Nat):Int)=(if(r3.1:Int)<r4.1 then(r4.1:Int) else r3.1) by split<;>omega,show((min r1.1 r2.1:Nat):Int)=(if(r2.1:Int)<r1.1 then(r2.1:Int) else r1.1) by split<;>omega]
  rfl
 ·exact frI
theorem join_ok (ab:Nat→Nat) (i j:Nat) (hi:i<400) (hj:j<400) (hle:∀x,x<400→ab x≤x) (h1:∀x,x<400→(rj ab i).2 x≤x) (h2:∀x,x<400→(rj (rj ab i).2 j).2 x≤x) (h3:∀x,x<400→(rj (rj (rj ab i).2 j).2 i).2 x≤x)
  (hr:(rj (rj (rj ab i).2 j).2 i).1<400∧(rj (rj (rj (rj ab i).2 j).2 i).2 j).1<400):DoesM Tryz.prog 118 [.c (.int .i64 i),.c (.int .i64 j),.ptr 1 0,.vptr 0 0 1 0 0] (rtO ab) (.tup []) (rtO (jnA ab i j)):=
 joinC_ok ab i j _ _ _ _ hr (root_ok ab hle 400 i (by omega) hi) (root_ok _ h1 400 j (by omega) hj) (root_ok _ h2 400 i (by omega) hi) (root_ok _ h3 400 j (by omega) hj)
end
section
open Go.Eng Go.RowKit Go.Lib
theorem rowOf_repD {a:AV} {n sz i:Nat} (hi:i<n):rowOf (List.replicate (n*sz) a) sz i=List.replicate sz a:=by
 have h1:(i+1)*sz≤n*sz:=Nat.mul_le_mul_right _ (by omega)
 rw[Nat.add_mul] at h1
 simp only[rowOf,List.drop_replicate,List.take_replicate]
 congr 1
 omega
structure Rp (N:Nat) (ab f:Nat→Nat):Prop where
 rep:Rep N ab f
 rt:RtOk f
 zero:∀x,N≤x→ab x=0
theorem Rp.rc {N:Nat} {ab f:Nat→Nat} (h:Rp N ab f):∀n i,i<N→i≤n→(rc ab n i).1=f i∧Rp N (rc ab n i).2 f:=by
 intro n i hi hn
 obtain⟨h1,h2⟩:=h.rep.rc h.rt n i hi hn
 refine⟨h1,h2,h.rt,?_⟩
 have key:∀n i,i<N→i≤n→∀x,N≤x→(Go.Proofs.YtgpkkllbejgmlaaGreatDoor.rc ab n i).2 x=0:=by
  intro n
  induction n with
  |zero=>exact fun i _ _ x hx=>h.zero x hx
  |succ n ih=>
   intro i hi hn x hx
   rw[Go.Proofs.YtgpkkllbejgmlaaGreatDoor.rc]
   split
   ·rename_i e
    have:=h.rep.le i hi
    show setAb _ _ _ x=0
    unfold setAb
    rw[if_neg (by omega)]
    exact ih (ab i) (by omega) (by omega) x hx
   ·exact h.zero x hx
 exact key n i hi hn
theorem Rp.le {N:Nat} {ab f:Nat→Nat} (h:Rp N ab f):∀x,x<400→ab x≤x:=fun x _=>by
 by_cases e:x<N
 ·exact h.rep.le x e
 ·rw[h.zero x (by omega)];exact Nat.zero_le _
theorem joinR_ok {N:Nat} {ab f:Nat→Nat} (h:Rp N ab f) (hN:N≤400) {i j:Nat} (hi:i<N) (hj:j<N):
  DoesM Tryz.prog 118 [.c (.int .i64 i),.c (.int .i64 j),.ptr 1 0,.vptr 0 0 1 0 0] (rtO ab) (.tup []) (rtO (jnA ab i j))∧Rp N (jnA ab i j) (jn f i j):=by
 obtain⟨e1,h1⟩:=h.rc 400 i hi (by omega)
 obtain⟨e2,h2⟩:=h1.rc 400 j hj (by omega)
 obtain⟨e3,h3⟩:=h2.rc 400 i hi (by omega)
 obtain⟨e4,h4⟩:=h3.rc 400 j hj (by omega)
 have hfi:=h.rt.le i
 have hfj:=h.rt.le j
 refine⟨join_ok ab i j (by omega) (by omega) h.le h1.le h2.le h3.le ⟨?_,?_⟩,h.rep.jn h.rt hN hi hj,h.rt.jn i j,fun x hx=>?_⟩
 ·unfold rj;rw[e3];omega
 ·unfold rj;rw[e4];omega
 ·unfold jnA rj setAb
  rw[e3,e4,if_neg (by omega)]
  exact h4.zero x hx
def uV (us:Int→Option Nat):Value→Option Nat
 |.int _ z=>us z
 |_=>none
def usO (us:Int→Option Nat):Ob:=.mapb (.int .i64) ty3.zv (fun v=>(uV us v).isSome) (fun v=>.c (.int .i64 ((uV us v).getD 0:Nat)))
theorem us_put (us:Int→Option Nat) (a:Int) (i:Nat) (v:Value) (hv:(KK.int .i64).has v=true):(uV (fun b=>if b=a then some i else us b) v).isSome=(keyEq v (.int .i64 a)||(uV us v).isSome)∧
  AvIs (bif keyEq v (.int .i64 a) then .c (.int .i64 (i:Nat)) else .c (.int .i64 ((uV us v).getD 0:Nat))) (.c (.int .i64 ((uV (fun b=>if b=a then some i else us b) v).getD 0:Nat))):=by
 cases v<;>simp[KK.has,LK.has] at hv
 rename_i kk z
 subst hv
 have hk:keyEq (.int .i64 z) (.int .i64 a)=(z==a):=by simp[keyEq,cellSame]
 rw[hk]
 show(if z=a then some i else us z).isSome=_∧AvIs _ (.c (.int .i64 ((if z=a then some i else us z).getD 0:Nat)))
 by_cases e:z=a
 ·rw[if_pos e,show(z==a)=true by simp[e]]
  exact⟨rfl,AvIs.refl _⟩
 ·rw[if_neg e,show(z==a)=false by simp[e]]
  exact⟨by simp[uV],AvIs.refl _⟩
theorem uses_lt {i N:Nat} (hi:i<N):∀(l:List Int) (s:Uf),(∀b u,s.2 b=some u→u<N)→∀b u,(l.foldl (useC i) s).2 b=some u→u<N
 |[],_,h=>h
 |a::l,s,h=>by
  refine uses_lt hi l (useC i s a) fun b u hb=>?_
  unfold useC at hb
  split at hb
  ·exact h b u hb
  ·have hb:(if b=a then some i else s.2 b)=some u:=hb
   split at hb
   ·injection hb with hb;omega
   ·exact h b u hb
theorem cmp_lt (k:K) (wh:Bool) {N:Nat}:∀n,n≤N→∀b u,(cmpT k wh n).2 b=some u→u<N
 |0,_,b,u,h=>by cases h
 |n+1,hn,b,u,h=>by
  have h:((numsC (clAt k n)).foldl (useC n) (((clAt k n).start.foldl (fun f c=>jn f n c.clause.toNat) (if wh=true then jn (cmpT k wh n).1 0 n else(cmpT k wh n).1)),(cmpT k wh n).2)).2 b=some u:=h
  refine uses_lt (i:=n) (N:=N) (by omega) (numsC (clAt k n)) _ (fun b u h=>?_) b u h
  exact cmp_lt k wh n (by omega) b u h
theorem foldl_takeS {α β:Type} [Inhabited α] (g:β→α→β) (l:List α) (b:β) {m:Nat} (h:m<l.length):(l.take (m+1)).foldl g b=g ((l.take m).foldl g b) (l.getD m default):=by
 rw[List.take_add_one,List.getElem?_eq_getElem h,List.foldl_append,List.getD_eq_getElem?_getD,List.getElem?_eq_getElem h]
 rfl
def natsV (l:List Nat):AV:=rowL (fun j:Nat=>[.c (.int .i64 (j:Nat))]) 1 l
def nssV (L:List (List Nat)):AV:=rowL (fun l=>[natsV l]) 1 L
def abG (ab:Nat→Nat):Nat→Nat→Nat
 |0=>ab
 |i+1=>(rc (abG ab i) 400 i).2
theorem comp_of (k:K) (hF:KFacts k) (hv:(kValid k).1=0) (hga:∀ab,Rp k.clauses.length ab (cmpT k (wholeB k) k.clauses.length).1→DoesM Tryz.prog 122 [.c (.int .i64 k.clauses.length),.fn (.func 117) [] [.vptr 0 0 1 0 0,.ptr 1 0]] (rtO ab) (nssV (compsL k)) (rtO (abG ab k.clauses.length))):
  Does Tryz.prog 81 [kV k] (nssV (compsL k)):=by
 have hkv:=kValid_ok k hF.w
 rw[hv] at hkv
 have hnc:=hF.nc
 have hna:=hF.na
 have hwo:=whole_ok k.acts (by omega)
 refine Does.mk (fun _=>false) TT_ok Tryz.func81 rfl (by kernel_rfl) Tryz.ntmps81 rfl rfl fun E hT hE hN hR=>?_
 have hm:=mixO hE
 refine XK.r ?_
 refine XL.callKA hE rfl rfl rfl rfl trivial rfl rfl (hkv) ?_
 refine XL.e ?_
 refine XK.c ?_ ?_<;>intro h1
 ·cases h1
 refine XK.w ?_
 refine XK.loop (ι:=Nat) (fun i=>ST.of [(1,.ptr 1 0),(5,.vptr 290 0 1 0 0),(28,.c (.int .i64 k.clauses.length)),(29,.c (.int .i64 i))] [(1,.cells 27 (kC k)),(290,abO (fun x=>if x<i then x else 0))] 1000 95 (fun _=>false))
  (fun i=>i≤k.clauses.length) (fun i=>k.clauses.length-i) 0 (Nat.zero_le _) (Weak.of hN rfl rfl rfl frI ⟨frI,⟨rfl,rfl,rfl⟩,rfl,fun x hx=>by show[AV.c (.int .i64 ((if x<0 then x else 0:Nat)))]=_;rw[if_neg (Nat.not_lt_zero _)];exact(rowOf_repD (a:=.c (.int .i64 0)) (n:=400) (sz:=1) hx).symm⟩) fun i hi=>?_
 refine XK.c ?_ ?_<;>intro hlt<;>try simp at hlt
 ·refine XK.w ?_
  refine XK.inv ⟨i+1,hlt,?_,by omega⟩
  refine Weak.of hN rfl rfl rfl frV ⟨frI,⟨rfl,rfl,rfl⟩,rfl,fun x hx=>?_⟩
  refine Eq.trans ?_ (ab_set 400 (fun x=>if x<i then x else 0) i i _ rfl x hx)
  show[AV.c (.int .i64 ((if x<i+1 then x else 0:Nat)))]=[AV.c (.int .i64 ((if x=i then i else if x<i then x else 0:Nat)))]
  by_cases e:x=i
  ·rw[if_pos e,if_pos (by omega),e]
  ·rw[if_neg e]
   by_cases e2:x<i
   ·rw[if_pos e2,if_pos (by omega)]
   ·rw[if_neg e2,if_neg (by omega)]
 have hie:i=k.clauses.length:=by omega
 subst hie
 refine XK.w ?_
 refine XK.r ?_
 refine XL.callKA hE rfl rfl rfl rfl trivial rfl rfl (hwo) ?_
 refine XL.e ?_
 have hb0:Rp k.clauses.length (fun x=>if x<k.clauses.length then x else 0) (cmpT k (wholeB k) 0).1:=by
  refine⟨⟨fun x hx=>?_,fun x hx=>?_,fun x hx _=>rfl⟩,⟨fun _=>rfl,fun _=>Nat.le_refl _⟩,fun x hx=>if_neg (by omega)⟩
  ·rw[if_pos hx];exact Nat.le_refl _
  ·show id _=id _;rw[if_pos hx]
 rw[show(k.acts.any fun a=>a.kind !=1)=wholeB k from rfl] at*
 generalize hwh:wholeB k=wh at*
 refine XK.loop (ι:=Nat×(Nat→Nat)) (fun z=>ST.of [(1,.ptr 1 0),(5,.vptr 290 0 1 0 0),(7,.ptr 1102 0),(8,.fn (.func 118) [] [.ptr 1102 0,.vptr 290 0 1 0 0]),(9,.c (.bool wh)),(10,.mp 1516),(43,clsV k.clauses),(44,.c (.int .i64 k.clauses.length)),(45,.c (.int .i64 z.1))]
   [(1,.cells 27 (kC k)),(290,abO z.2),(1102,.cells 93 [.fn (.func 117) [] [.vptr 290 0 1 0 0,.ptr 1102 0]]),(1516,usO (cmpT k wh z.1).2)] 2000 95 (fun _=>false))
  (fun z=>z.1≤k.clauses.length∧Rp k.clauses.length z.2 (cmpT k wh z.1).1) (fun z=>k.clauses.length-z.1) (0,fun x=>if x<k.clauses.length then x else 0) ⟨Nat.zero_le _,hb0⟩
  (Weak.of hN rfl rfl rfl frI ⟨frI,frI,frI,rfl,rfl,fun v hv=>⟨by cases v<;>rfl,by cases v<;>exact AvIs.refl _⟩⟩) fun z hz=>?_
 obtain⟨i,ab⟩:=z
 obtain⟨hi,hR'⟩:=hz
 dsimp only at hi hR' ⊢
 refine XK.c ?_ ?_<;>intro hlt2<;>try simp at hlt2
 rotate_left
 ·have hie:i=k.clauses.length:=by omega
  subst hie
  have hg:=hga ab hR'
  refine XK.w ?_
  refine XK.r ?_
  refine XL.callMA [290,1102] hE rfl rfl rfl rfl trivial (hg) rfl rfl rfl rfl rfl ?_
  refine XL.e ?_
  refine XK.w ?_
  refine XK.q ?_
  rfl
 have hlt2:i<k.clauses.length:=by omega
 have fc:k.clauses.getD (i:Int).toNat default=clAt k i:=rfl
 have hcs:cmpT k wh (i+1)=(numsC (clAt k i)).foldl (useC i) ((clAt k i).start.foldl (fun f c=>jn f i c.clause.toNat) (if wh=true then jn (cmpT k wh i).1 0 i else(cmpT k wh i).1),(cmpT k wh i).2):=rfl
 have hnum:=numbers_ok (clAt k i)
 have hcd:=fun c hc=>hF.cond hlt2 (s:=c) hc
 have hst8:=(hF.clB hlt2).2.2.2.1
 have hu:∀b u,(cmpT k wh i).2 b=some u→u<k.clauses.length:=cmp_lt k wh i (by omega)
 have hj0:=joinR_ok hR' hnc (i:=0) (j:=i) (by omega) hlt2
 generalize hs:cmpT k wh i=s at*
 obtain⟨f,us⟩:=s
 dsimp only at hR' hcs hj0 hu ⊢
 refine XK.w ?_
 rw[fc]
 generalize clAt k i=c at*
 -- the first join
 refine XK.w ?_;refine XK.join (ST.of [(1,.ptr 1 0),(5,.vptr 290 0 1 0 0),(7,.ptr 1102 0),(8,.fn (.func 118) [] [.ptr 1102 0,.vptr 290 0 1 0 0]),(9,.c (.bool wh)),(10,.mp 1516),(11,.c (.int .i64 i)),(12,.ptr 2107 0),(43,clsV k.clauses),(44,.c (.int .i64 k.clauses.length)),(45,.c (.int .i64 i))] [(1,.cells 27 (kC k)),(290,abO (if wh=true then jnA ab 0 i else ab)),(1102,.cells 93 [.fn (.func 117) [] [.vptr 290 0 1 0 0,.ptr 1102 0]]),(1516,usO (us)),(2107,.cells 61 (clC c))] 4000 95 (fun _=>false)) rfl (fun h4=>?_) (fun h4=>?_) ?_
 ·have h4:wh=true:=h4
  rw[if_pos h4]
  obtain⟨hj1,-⟩:=hj0
  refine XK.w ?_
  refine XK.r ?_
  refine XL.callMA [290,1102] hE rfl rfl rfl rfl trivial (hj1) rfl rfl rfl rfl rfl ?_
  refine XL.e ?_
  exact XK.inv (Weak.of hN rfl rfl rfl frI frI)
 ·have h4:wh=false:=h4
  rw[h4,if_neg (by simp)]
  refine XK.w ?_
  exact XK.inv (Weak.of hN rfl rfl rfl frI frI)
 have hR1:Rp k.clauses.length (if wh=true then jnA ab 0 i else ab) (if wh=true then jn f 0 i else f):=by
  split
  ·exact hj0.2
  ·exact hR'
 generalize (if wh=true then jnA ab 0 i else ab)=ab1 at*
 generalize (if wh=true then jn f 0 i else f)=f1 at*
 clear hj0 hR' hs
 refine XK.w ?_
 refine XK.loop (ι:=Nat×(Nat→Nat)) (fun z=>ST.of [(1,.ptr 1 0),(5,.vptr 290 0 1 0 0),(7,.ptr 1102 0),(8,.fn (.func 118) [] [.ptr 1102 0,.vptr 290 0 1 0 0]),(9,.c (.bool wh)),(10,.mp 1516),(11,.c (.int .i64 i)),(12,.ptr 2107 0),(43,clsV k.clauses),(44,.c (.int .i64 k.clauses.length)),(45,.c (.int .i64 i)),(55,cndsV c.start),(56,.c (.int .i64 c.start.length)),(57,.c (.int .i64 z.1))] [(1,.cells 27 (kC k)),(290,abO (z.2)),(1102,.cells 93 [.fn (.func 117) [] [.vptr 290 0 1 0 0,.ptr 1102 0]]),(1516,usO (us)),(2107,.cells 61 (clC c))] 5000 95 (fun _=>false))
  (fun z=>z.1≤c.start.length∧Rp k.clauses.length z.2 ((c.start.take z.1).foldl (fun f c=>jn f i c.clause.toNat) f1)) (fun z=>c.start.length-z.1) (0,ab1) ⟨Nat.zero_le _,hR1⟩ (Weak.of hN rfl rfl rfl frI frI) fun z hz=>?_
 obtain⟨m,ab2⟩:=z
 obtain⟨hm1,hR2⟩:=hz
 dsimp only at hm1 hR2 ⊢
 refine XK.c ?_ ?_<;>intro hml<;>try simp at hml
 ·have hml:m<c.start.length:=by omega
  have fz:c.start.getD (m:Int).toNat default=c.start.getD m default:=rfl
  have hcm:=hcd (c.start.getD m default) (by rw[List.getD_eq_getElem?_getD,List.getElem?_eq_getElem hml];exact List.getElem_mem hml)
  have hfo:=foldl_takeS (fun f (c:Cnd)=>jn f i c.clause.toNat) c.start f1 hml
  generalize hc1:(c.start.take m).foldl (fun f c=>jn f i c.clause.toNat) f1=f2 at*
  refine XK.w ?_
  rw[fz]
  generalize c.start.getD m default=sc at*
  obtain⟨y,hy⟩:∃y:Nat,sc.clause=(y:Int):=⟨sc.clause.toNat,by omega⟩
  have hyt:sc.clause.toNat=y:=by omega
  rw[hyt] at hfo
  obtain⟨hj1,hj2⟩:=joinR_ok hR2 hnc (i:=i) (j:=y) hlt2 (by omega)
  rw[←hfo] at hj2
  refine XK.w ?_
  rw[hy]
  refine XK.r ?_
  refine XL.callMA [290,1102] hE rfl rfl rfl rfl trivial (hj1) rfl rfl rfl rfl rfl ?_
  refine XL.e ?_
  exact XK.inv ⟨(m+1,jnA ab2 i y),⟨hml,hj2⟩,(Weak.of hN rfl rfl rfl frI frI),by dsimp only;omega⟩
 have hme:m=c.start.length:=by omega
 subst hme
 rw[List.take_length] at hR2
 generalize c.start.foldl (fun f c=>jn f i c.clause.toNat) f1=f2 at*
 clear hm1 hml hcd
 refine XK.w ?_
 refine XK.r ?_
 refine XL.callKA hE rfl rfl rfl rfl trivial rfl rfl (hnum) ?_
 refine XL.e ?_
 have hnl:(numsC c).length≤3:=by unfold numsC;split<;>simp
 refine XK.loop (ι:=Nat×(Nat→Nat)) (fun z=>ST.of [(1,.ptr 1 0),(5,.vptr 290 0 1 0 0),(7,.ptr 1102 0),(8,.fn (.func 118) [] [.ptr 1102 0,.vptr 290 0 1 0 0]),(9,.c (.bool wh)),(10,.mp 1516),(11,.c (.int .i64 i)),(12,.ptr 2107 0),(43,clsV k.clauses),(44,.c (.int .i64 k.clauses.length)),(45,.c (.int .i64 i)),(68,intsV (numsC c)),(69,.c (.int .i64 (numsC c).length)),(70,.c (.int .i64 z.1))] [(1,.cells 27 (kC k)),(290,abO (z.2)),(1102,.cells 93 [.fn (.func 117) [] [.vptr 290 0 1 0 0,.ptr 1102 0]]),(1516,usO ((((numsC c).take z.1).foldl (useC i) (f2,us)).2)),(2107,.cells 61 (clC c))] 6000 95 (fun _=>false))
  (fun z=>z.1≤(numsC c).length∧Rp k.clauses.length z.2 (((numsC c).take z.1).foldl (useC i) (f2,us)).1) (fun z=>(numsC c).length -z.1) (0,ab2) ⟨Nat.zero_le _,hR2⟩ (Weak.of hN rfl rfl rfl frI frI) fun z hz=>?_
 obtain⟨m,ab3⟩:=z
 obtain⟨hm1,hR3⟩:=hz
 dsimp only at hm1 hR3 ⊢
 refine XK.c ?_ ?_<;>intro hml<;>try simp at hml
 ·have hml:m<(numsC c).length:=by omega
  have fz:(numsC c).getD (m:Int).toNat default=(numsC c).getD m default:=rfl
  have hfo:=foldl_takeS (useC i) (numsC c) (f2,us) hml
  have hul:=uses_lt hlt2 ((numsC c).take m) (f2,us) hu
  generalize hc1:((numsC c).take m).foldl (useC i) (f2,us)=s3 at*
  obtain⟨f3,us3⟩:=s3
  dsimp only at hR3 hul ⊢
  refine XK.w ?_
  rw[fz]
  generalize (numsC c).getD m default=a at*
  have ef:uV us3 (.int .i64 a)=us3 a:=rfl
  refine XK.c ?_ ?_<;>intro h9
  ·obtain⟨v,hv3⟩:∃v,us3 a=some v:=by
    cases hq:us3 a with
    |none=>
     have h9:(uV us3 (.int .i64 a)).isSome=true:=h9
     rw[ef,hq] at h9;cases h9
    |some v=>exact⟨v,rfl⟩
   have hvl:=hul a v hv3
   have huc:useC i (f3,us3) a=(jn f3 v i,us3):=by unfold useC;dsimp only;rw[hv3]
   have e17:(uV us3 (.int .i64 a)).getD 0=v:=by rw[ef,hv3];rfl
   rw[huc] at hfo
   obtain⟨hj1,hj2⟩:=joinR_ok hR3 hnc (i:=v) (j:=i) hvl hlt2
   rw[e17]
   refine XK.r ?_
   refine XL.callMA [290,1102] hE rfl rfl rfl rfl trivial (hj1) rfl rfl rfl rfl rfl ?_
   refine XL.e ?_
   refine XK.inv ⟨(m+1,jnA ab3 v i),⟨hml,by dsimp only;rw[hfo];exact hj2⟩,?_,by dsimp only;omega⟩
   dsimp only
   rw[hfo]
   exact(Weak.of hN rfl rfl rfl frI frI)
  ·have hv3:us3 a=none:=by
    cases hq:us3 a with
    |none=>rfl
    |some v=>
     have h9:(uV us3 (.int .i64 a)).isSome=false:=h9
     rw[ef,hq] at h9;cases h9
   have huc:useC i (f3,us3) a=(f3,fun b=>if b=a then some i else us3 b):=by unfold useC;dsimp only;rw[hv3]
   rw[huc] at hfo
   refine XK.w ?_
   refine XK.inv ⟨(m+1,ab3),⟨hml,by dsimp only;rw[hfo];exact hR3⟩,?_,by dsimp only;omega⟩
   dsimp only
   rw[hfo]
   exact Weak.of hN rfl rfl rfl frV ⟨frI,frI,frI,⟨rfl,rfl,fun v hv=>us_put us3 a i v hv⟩,frI⟩
 ·have hme:m=(numsC c).length:=by omega
  subst hme
  rw[List.take_length] at hR3 ⊢
  rw[←hcs] at hR3 ⊢
  refine XK.w ?_
  exact XK.inv ⟨(i+1,ab3),⟨hlt2,hR3⟩,(Weak.of hN rfl rfl rfl frI frI),by dsimp only;omega⟩
end
section
open Go.Eng Go.RowKit Go.Lib
theorem restS_succ (cl:List Nat) (s:St) {i:Nat} (h:i<cl.length):(cl.take (i+1)).map (fun j=>s.marks.getD j default)=(cl.take i).map (fun j=>s.marks.getD j default)++[s.marks.getD (cl.getD i default) default]:=by
 have e:cl.getD i default=cl[i]:=by rw[List.getD_eq_getElem?_getD,List.getElem?_eq_getElem h];rfl
 rw[e,List.take_add_one,List.getElem?_eq_getElem h,List.map_append]
 rfl
theorem restricted_ok (cl:List Nat) (s:St) (hcl:∀i∈cl,i<s.marks.length) (hcm:cl.length≤400) (h1:s.holders.length≤1000000) (h2:s.used.length≤1000000):Does Tryz.prog 83 [natsV cl,stV s] (stV (restS cl s)):=by
 have c1:=clnA_ints s.holders h1
 have c2:=clnA_bools s.used h2
 refine Does.mk (fun _=>false) TT_ok Tryz.func83 rfl (by kernel_rfl) Tryz.ntmps83 rfl rfl fun E hT hE hN hR=>?_
 have hm:=mixO hE
 refine XK.s ?_
 refine XD.callKA hE rfl rfl rfl rfl trivial rfl rfl (c1) ?_
 refine XD.g ?_
 refine XD.callKA hE rfl rfl rfl rfl trivial rfl rfl (c2) ?_
 refine XD.e ?_
 refine XK.w ?_
 refine XK.loop (ι:=Nat) (fun i=>ST.of [(3,.ptr 3 0),(4,.ptr 4 0),(5,.ptr 40 0),(17,natsV cl),(18,.c (.int .i64 cl.length)),(19,.c (.int .i64 i))]
   [(3,.cells 44 (stC s)),(4,.cells 44 [.c (.int .i64 0),.c (.slice none 0 0),.c (.slice none 0 0),.c (.slice none 0 0)]),(40,.cells 44 [.c (.int .i64 s.day),intsV s.holders,boolsV s.used,.vec 700 0]),
    (700,.vec 56 5 0 ((cl.take i).map (fun j=>s.marks.getD j default)).length (fun j=>mkC (((cl.take i).map (fun j=>s.marks.getD j default)).getD j default)))] 1000 35 (fun _=>false))
  (fun i=>i≤cl.length) (fun i=>cl.length-i) 0 (Nat.zero_le _)
  (Weak.trans (Weak.ghostAt (c:=40) (k:=700) (i0:=3) (e:=56) (sz:=5) (f:=fun _=>[]) rfl rfl rfl rfl) (Weak.of hN rfl rfl rfl frI (by(repeat' (first|exact rfl|exact AvIs.refl _|exact trivial|exact fun _ _=>rfl|exact fun _ _=>⟨rfl,AvIs.refl _⟩|exact cI (by omega)|exact(fun i hi=>absurd hi (Nat.not_lt_zero _))|refine⟨?_,?_⟩))))) fun i hi=>?_
 refine XK.c ?_ ?_<;>intro hlt<;>try simp at hlt
 ·have hlt:i<cl.length:=by omega
  have fx:cl.getD (i:Int).toNat default=cl.getD i default:=rfl
  have hin:=hcl (cl.getD i default) (by rw[List.getD_eq_getElem?_getD,List.getElem?_eq_getElem hlt];exact List.getElem_mem hlt)
  have hsn:=restS_succ cl s hlt
  have hln:((cl.take i).map (fun j=>s.marks.getD j default)).length≤400:=by rw[List.length_map,List.length_take];omega
  generalize hM0:(cl.take i).map (fun j=>s.marks.getD j default)=M0 at*
  generalize hM1:(cl.take (i+1)).map (fun j=>s.marks.getD j default)=M1 at*
  refine XK.w ?_
  rw[fx]
  generalize cl.getD i default=c at*
  have fy:s.marks.getD (c:Int).toNat default=s.marks.getD c default:=rfl
  refine XK.w ?_
  refine XK.inv ⟨i+1,hlt,?_,by omega⟩
  rw[hM1,hsn]
  exact Weak.trans (Weak.stamp (k:=700) (t:=0) hN rfl rfl) (Weak.of hN rfl rfl rfl frV ⟨frI,frI,frI,⟨rfl,rfl,rfl⟩,by simp,row_snocD mkC M0 (s.marks.getD c default) _ rfl⟩)
 ·have hie:i=cl.length:=by omega
  subst hie
  rw[List.take_length]
  refine XK.weak (Weak.frozen (k:=700) hN rfl rfl) ?_
  refine XK.w ?_
  refine XK.q ?_
  rfl
end
section
open Go.Eng Go.RowKit Go.Lib
def lsO (s:Nat) (L:List (List Nat)):Ob:=.vec 22 1 s L.length (fun j=>[natsV (L.getD j default)])
noncomputable def ptE (k:K) (p:Int) (x:Ps):Int:=if(fromR k p x).2=true then 3 else 0
noncomputable def ptL (k:K) (p:Int) (x:Ps):Bool:=!(fromR k p x).2&&!(sfB k p (fromR k p x).1 0)
theorem lost1_ok (k:K) (hF:KFacts k) (hv:(kValid k).1=0) (p:Int) (x:Ps) (hpl:plB k p x=true) (cl:List Nat) (L:List (List Nat)) (hL:L.length≤1000):
  DoesM Tryz.prog 49 [natsV cl,kV k,psV x,.rptr [.c (.int .i64 p)],.ptr 0 0] [.cells 76 [.vec 1 0],lsO 0 L] (.c (.int .i64 (ptE k p x))) [.cells 76 [.vec 1 2],lsO 2 (L++if ptL k p x=true then[cl] else[])]:=by
 have hfr:=from_ok k hF hv p x hpl
 have har:=fun h=>fromR_arena hF hpl h
 unfold fromV at hfr
 rw[if_neg (by rw[hpl];simp)] at hfr
 unfold ptE ptL
 generalize fromR k p x=R at*
 obtain⟨A,st⟩:=R
 dsimp only at*
 refine DoesM.mk (fun _=>false) 100 TT_ok Tryz.func49 rfl (by kernel_rfl) Tryz.ntmps49 rfl rfl rfl fun E hT hE hN hR=>?_
 have hm:=mixO hE
 refine XK.weak (Weak.trans (Weak.steal 500 (k:=1) (s:=0) (f':=fun _=>[]) hN rfl rfl rfl) (Weak.of (L:=[(0,natsV cl),(1,kV k),(2,psV x),(3,.rptr [.c (.int .i64 p)]),(4,.ptr 0 0)])
  (O:=[(0,.cells 76 [.vec 500 0]),(1,.vec 22 1 1 0 (fun _=>[])),(500,lsO 0 L)]) (nx:=1000) (nt:=33) (md:=fun _=>false) hN rfl rfl rfl frI frI)) ?_
 cases st with
 |true=>
  rw[if_pos rfl] at hfr ⊢
  refine XK.r ?_
  refine XL.callKA hE rfl rfl rfl rfl trivial rfl rfl (hfr) ?_
  refine XL.e ?_
  refine XK.r ?_
  refine XL.skipG (.c (.bool false)) rfl rfl rfl rfl rfl ?_
  refine XL.skipG (.c (.bool false)) rfl rfl rfl rfl rfl ?_
  refine XL.skipG (.c (.bool false)) rfl rfl rfl rfl rfl ?_
  refine XL.skipG (.c (.bool false)) rfl rfl rfl rfl rfl ?_
  refine XL.e ?_
  refine XK.c ?_ ?_<;>intro h1
  ·cases h1
  refine XK.w ?_
  refine XK.weak (Weak.give (k:=1) (q:=500) 2 hN rfl rfl rfl rfl (by show 1<2;omega)) ?_
  refine XK.w ?_
  refine XK.t [0,1] ?_ ?_
  ·rw[show(!true&&!sfB k p A 0)=false from rfl,if_neg (by simp),List.append_nil]
   (repeat' (first|exact rfl|exact AvIs.refl _|exact trivial|exact fun _ _=>rfl|exact fun _ _=>⟨rfl,AvIs.refl _⟩|refine⟨?_,?_⟩))
  ·exact frI
 |false=>
  rw[if_neg (by simp)] at hfr ⊢
  obtain⟨hA,-,hpos,-⟩:=har rfl
  have hsf:=rsafe_ok k hF p A hA hpos
  refine XK.r ?_
  refine XL.callKA hE rfl rfl rfl rfl trivial rfl rfl (hfr) ?_
  refine XL.e ?_
  refine XK.r ?_
  refine XL.callMG [] (.c (.bool false)) hE rfl rfl rfl rfl rfl rfl (fun hgd=>?_) rfl (fun hgd=>?_) (fun hgd=>hsf.toM rfl) rfl ?_ rfl (fun hgd=>?_) rfl rfl rfl (fun hgd=>?_)
  ·cases hgd
  ·simp[AllP,impG]
  ·exact frI
  ·trivial
  refine XL.e ?_
  refine XK.c ?_ ?_<;>intro h1
  ·have h1:sfB k p A 0=false:=by
    have h1:(!(sfB k p A 0))=true:=h1
    simpa using h1
   rw[show(!false&&!sfB k p A 0)=true by rw[h1];rfl,if_pos rfl]
   refine XK.w ?_
   refine XK.weak (Weak.give (k:=1) (q:=500) 2 hN rfl rfl rfl rfl (by show 1<2;omega)) ?_
   refine XK.w ?_
   refine XK.t [0,1] ?_ ?_
   ·exact⟨frI,⟨rfl,rfl,rfl⟩,by simp,row_snocD (fun l=>[natsV l]) L cl _ rfl⟩
   ·exact frI
  ·have h1:sfB k p A 0=true:=by
    have h1:(!(sfB k p A 0))=false:=h1
    simpa using h1
   rw[show(!false&&!sfB k p A 0)=false by rw[h1];rfl,if_neg (by simp),List.append_nil]
   refine XK.w ?_
   refine XK.weak (Weak.give (k:=1) (q:=500) 2 hN rfl rfl rfl rfl (by show 1<2;omega)) ?_
   refine XK.w ?_
   refine XK.t [0,1] ?_ ?_
   ·exact frI
   ·exact frI
end
section
open Go.Eng Go.RowKit Go.Lib
noncomputable def slT (k:K) (p:Int) (x:Ps) (P:List (List Nat)):Nat→Int×List (List Nat)
 |0=>(0,[])
 |j+1=>if(slT k p x P j).1≠0 then slT k p x P j else(ptE (partK k (P.getD j default)) p (restS (P.getD j default) x.1,x.2),(slT k p x P j).2++if ptL (partK k (P.getD j default)) p (restS (P.getD j default) x.1,x.2)=true then[P.getD j default] else[])
theorem slT_stop {k:K} {p:Int} {x:Ps} {P:List (List Nat)} {j:Nat} (h:(slT k p x P j).1≠0):∀m,j≤m→slT k p x P m=slT k p x P j:=by
 intro m hm
 induction m with
 |zero=>have:j=0:=by omega
        rw[this]
 |succ m ih=>
  by_cases e:j=m+1
  ·rw[e]
  ·have ih:=ih (by omega)
   rw[slT,ih,if_pos h]
theorem slT_len (k:K) (p:Int) (x:Ps) (P:List (List Nat)):∀j,(slT k p x P j).2.length≤j
 |0=>Nat.le_refl _
 |j+1=>by
  have ih:=slT_len k p x P j
  rw[slT]
  split
  ·omega
  ·show((slT k p x P j).2++_).length≤_
   rw[List.length_append]
   have:(if ptL (partK k (P.getD j default)) p (restS (P.getD j default) x.1,x.2)=true then[P.getD j default] else[]).length≤1:=by split<;>simp
   omega
structure SlOk (k:K) (p:Int) (x:Ps) (P:List (List Nat)):Prop where
 len:P.length≤400
 cl:∀c∈P,c.length≤400∧(∀i∈c,i<x.1.marks.length)∧KFacts (partK k c)∧(kValid (partK k c)).1=0∧plB (partK k c) p (restS c x.1,x.2)=true∧Does Tryz.prog 82 [kV k,natsV c] (.tup [kV (partK k c),.c (.int .i64 0)])
theorem solve_ok (k:K) (hF:KFacts k) (p:Int) (x:Ps) (hpl:plB k p x=true) (P:List (List Nat)) (hP:SlOk k p x P) (hco:Does Tryz.prog 81 [kV k] (nssV P)):
  DoesM Tryz.prog 48 [kV k,.c (.int .i64 p),psV x,.fn (.func 49) [] [.rptr [.c (.int .i64 p)],.ptr 0 0]] [.cells 76 [.vec 1 0],lsO 0 []] (.c (.int .i64 (slT k p x P P.length).1)) [.cells 76 [.vec 1 2],lsO 2 (slT k p x P P.length).2]:=by
 have hv:=validS_ok k hF.w x.1
 have hq:(0≤p∧p<k.parties)∧validS k x.1=true:=by unfold plB at hpl;simpa using hpl
 rw[hq.2] at hv
 have hl:=validS_len hq.2
 have hnh:=hF.nh
 have hna:=hF.na
 have hPl:=hP.len
 refine DoesM.mk (fun _=>false) 100 TT_ok Tryz.func48 rfl (by kernel_rfl) Tryz.ntmps48 rfl rfl rfl fun E hT hE hN hR=>?_
 have hm:=mixO hE
 refine XK.weak (Weak.trans (Weak.steal 500 (k:=1) (s:=0) (f':=fun _=>[]) hN rfl rfl rfl) (Weak.of (L:=[(0,kV k),(1,.c (.int .i64 p)),(2,psV x),(3,.fn (.func 49) [] [.rptr [.c (.int .i64 p)],.ptr 0 0])])
  (O:=[(0,.cells 76 [.vec 500 0]),(1,.vec 22 1 1 0 (fun _=>[])),(500,lsO 0 [])]) (nx:=1000) (nt:=60) (md:=fun _=>false) hN rfl rfl rfl frI frI)) ?_
 refine XK.w ?_
 refine XK.r ?_
 refine XL.callGA hE rfl rfl rfl rfl rfl rfl rfl rfl (hv) rfl ?_
 refine XL.e ?_
 refine XK.c ?_ ?_<;>intro h1
 ·exfalso
  simp at h1
  omega
 refine XK.w ?_
 refine XK.r ?_
 refine XL.callKA hE rfl rfl rfl rfl trivial rfl rfl (hco) ?_
 refine XL.e ?_
 refine XK.loop (ι:=Nat) (fun j=>ST.of [(1,.c (.int .i64 p)),(3,.fn (.func 49) [] [.rptr [.c (.int .i64 p)],.ptr 0 0]),(4,.ptr 1004 0),(6,.ptr 1006 0),(9,.c (.int .i64 (slT k p x P j).1)),(30,nssV P),(31,.c (.int .i64 P.length)),(32,.c (.int .i64 j))]
   [(0,.cells 76 [.vec 500 0]),(1,.vec 22 1 1 0 (fun _=>[])),(500,lsO 0 (slT k p x P j).2),(1004,.cells 27 (kC k)),(1006,.cells 50 (psC x))] 3000 60 (fun _=>false))
  (fun j=>j≤P.length∧(slT k p x P j).1=0) (fun j=>P.length-j) 0 ⟨Nat.zero_le _,rfl⟩ (Weak.of hN rfl rfl rfl frI frI) fun j hj=>?_
 obtain⟨hj,hz⟩:=hj
 refine XK.c ?_ ?_<;>intro hlt<;>try simp at hlt
 ·have hlt:j<P.length:=by omega
  have fx:P.getD (j:Int).toNat default=P.getD j default:=rfl
  have hin:P.getD j default∈P:=by rw[List.getD_eq_getElem?_getD,List.getElem?_eq_getElem hlt];exact List.getElem_mem hlt
  obtain⟨c1,c2,c3,c4,c5,c6⟩:=hP.cl _ hin
  have hre:=restricted_ok (P.getD j default) x.1 c2 c1 (by omega) (by omega)
  have hsl:=slT_len k p x P j
  have hnx:slT k p x P (j+1)=(ptE (partK k (P.getD j default)) p (restS (P.getD j default) x.1,x.2),(slT k p x P j).2++if ptL (partK k (P.getD j default)) p (restS (P.getD j default) x.1,x.2)=true then[P.getD j default] else[]):=by rw[slT,if_neg (by simpa using hz)]
  have hstop:=slT_stop (k:=k) (p:=p) (x:=x) (P:=P) (j:=j+1)
  have hlo:DoesM Tryz.prog 49 [natsV (P.getD j default),kV (partK k (P.getD j default)),psV (restS (P.getD j default) x.1,x.2),.rptr [.c (.int .i64 p)],.ptr 0 0] [.cells 76 [.vec 1 0],lsO 0 (slT k p x P j).2] (.c (.int .i64 (slT k p x P (j+1)).1)) [.cells 76 [.vec 1 2],lsO 2 (slT k p x P (j+1)).2]:=by
   rw[hnx]
   exact lost1_ok (partK k (P.getD j default)) c3 c4 p (restS (P.getD j default) x.1,x.2) c5 (P.getD j default) (slT k p x P j).2 (by omega)
  clear hnx c3 c4 c5
  generalize hS1:slT k p x P (j+1)=S1 at*
  generalize hS0:slT k p x P j=S0 at*
  refine XK.w ?_
  rw[fx]
  generalize P.getD j default=c at*
  have hkp:partK k c=partK k c:=rfl
  generalize hpk:partK k c=pk at*
  refine XK.w ?_
  refine XK.r ?_
  refine XL.callKA hE rfl rfl rfl rfl trivial rfl rfl (c6) ?_
  refine XL.e ?_
  refine XK.c ?_ ?_<;>intro h2
  rotate_left
  ·cases h2
  refine XK.s ?_
  refine XD.callKA hE rfl rfl rfl rfl trivial rfl rfl (hre) ?_
  refine XD.g ?_
  refine XD.callMA [0,500] hE rfl rfl rfl rfl trivial (hlo) rfl rfl rfl rfl rfl ?_
  refine XD.e ?_
  refine XK.c ?_ ?_<;>intro h3
  ·have h3:S1.1≠0:=by simpa using h3
   rw[hstop h3 P.length hlt]
   refine XK.w ?_
   refine XK.weak (Weak.trans (Weak.stamp (k:=500) (t:=0) hN rfl rfl) (Weak.trans (Weak.of (L:=[(9,.c (.int .i64 S1.1)),(8,.c (.int .i64 S1.1))]) (O:=[(0,.cells 76 [.vec 500 0]),(1,.vec 22 1 1 0 (fun _=>[])),(500,lsO 0 S1.2)]) (nx:=9000) (nt:=60) (md:=fun _=>false) hN rfl rfl rfl frI frI) (Weak.give (k:=1) (q:=500) 2 hN rfl rfl rfl rfl (by show 1<2;omega)))) ?_
   refine XK.w ?_
   refine XK.t [0,1] ?_ ?_
   ·exact frI
   ·exact frI
  ·have h3:S1.1=0:=by simpa using h3
   refine XK.w ?_
   refine XK.inv ⟨j+1,⟨hlt,by rw[hS1];exact h3⟩,?_,by omega⟩
   rw[hS1]
   exact Weak.trans (Weak.stamp (k:=500) (t:=0) hN rfl rfl) (Weak.of hN rfl rfl rfl frV frI)
 ·have hje:j=P.length:=by omega
  subst hje
  refine XK.weak (Weak.give (k:=1) (q:=500) 2 hN rfl rfl rfl rfl (by show 1<2;omega)) ?_
  refine XK.w ?_
  refine XK.t [0,1] ?_ ?_
  ·exact frI
  ·exact frI
noncomputable def lostV (k:K) (p:Int) (x:Ps) (P:List (List Nat)):AV:=if(slT k p x P P.length).1≠0 then .tup [.c (.slice none 0 0),.c (.int .i64 (slT k p x P P.length).1)] else .tup [nssV (slT k p x P P.length).2,.c (.int .i64 0)]
theorem lost_ok (k:K) (hF:KFacts k) (p:Int) (x:Ps) (hpl:plB k p x=true) (P:List (List Nat)) (hP:SlOk k p x P) (hco:Does Tryz.prog 81 [kV k] (nssV P)):Does Tryz.prog 27 [kV k,.c (.int .i64 p),psV x] (lostV k p x P):=by
 have hso:=solve_ok k hF p x hpl P hP hco
 unfold lostV
 generalize slT k p x P P.length=S at*
 refine Does.mk (fun _=>false) TT_ok Tryz.func27 rfl (by kernel_rfl) Tryz.ntmps27 rfl rfl fun E hT hE hN hR=>?_
 have hm:=mixO hE
 refine XK.w ?_
 refine XK.weak (Weak.trans (Weak.frozenC (k:=4) hN rfl rfl rfl) (Weak.trans (Weak.ghostC (c:=27) (k:=700) (e:=22) (sz:=1) (f:=fun _=>[]) rfl rfl rfl)
  (Weak.of (L:=[(3,.ptr 3 0),(4,.rptr [.c (.int .i64 p)]),(5,.ptr 5 0),(8,.ptr 27 0)]) (O:=[(3,.cells 27 (kC k)),(5,.cells 50 (psC x)),(27,.cells 76 [.vec 700 0]),(700,lsO 0 [])]) (nx:=1000) (nt:=19) (md:=fun _=>false) hN rfl rfl rfl frI (by(repeat' (first|exact rfl|exact AvIs.refl _|exact trivial|exact fun _ _=>rfl|exact fun _ _=>⟨rfl,AvIs.refl _⟩|exact cI (by omega)|exact(fun i hi=>absurd hi (Nat.not_lt_zero _))|refine⟨?_,?_⟩)))))) ?_
 refine XK.w ?_
 refine XK.r ?_
 refine XL.callMA [27,700] hE rfl rfl rfl rfl trivial (hso) rfl rfl rfl rfl rfl ?_
 refine XL.e ?_
 refine XK.c ?_ ?_<;>intro h1
 ·have h1:S.1≠0:=by simpa using h1
  rw[if_pos h1]
  refine XK.w ?_
  refine XK.q ?_
  rfl
 ·have h1:S.1=0:=by simpa using h1
  rw[if_neg (by simpa using h1)]
  refine XK.weak (Weak.trans (Weak.stamp (k:=700) (t:=0) hN rfl rfl) (Weak.trans (Weak.of (L:=[(8,.ptr 27 0)]) (O:=[(27,.cells 76 [.vec 700 0]),(700,lsO 0 S.2)]) (nx:=3000) (nt:=19) (md:=fun _=>false) hN rfl rfl rfl frI frI) (Weak.frozen (k:=700) hN rfl rfl))) ?_
  refine XK.w ?_
  refine XK.q ?_
  rfl
theorem csafe1 {k:K} {p:Int} {x:Ps} {L:List (List Nat)} (hlo:Does Tryz.prog 27 [kV k,.c (.int .i64 p),psV x] (.tup [nssV L,.c (.int .i64 0)])):Does Tryz.prog 12 [kV k,.c (.int .i64 p),psV x] (.tup [.c (.bool ((0:Int)==0&&L.length==0)),.c (.int .i64 0)]):=by
 refine Does.mk (fun _=>false) TT_ok Tryz.func12 rfl (by kernel_rfl) Tryz.ntmps12 rfl rfl fun E hT hE hN hR=>?_
 have hm:=mixO hE
 refine XK.r ?_
 refine XL.callKA hE rfl rfl rfl rfl trivial rfl rfl (hlo) ?_
 refine XL.e ?_
 refine XK.q ?_
 rw[show((L.length:Int)==0)=(L.length==0) by rw[Bool.eq_iff_iff];simp]
theorem csafe2 {k:K} {p:Int} {x:Ps} {L:List (List Nat)} {e:Int} (h:e≠0) (hlo:Does Tryz.prog 27 [kV k,.c (.int .i64 p),psV x] (.tup [.c (.slice none 0 0),.c (.int .i64 e)])):Does Tryz.prog 12 [kV k,.c (.int .i64 p),psV x] (.tup [.c (.bool (e==0&&L.length==0)),.c (.int .i64 e)]):=by
 refine Does.mk (fun _=>false) TT_ok Tryz.func12 rfl (by kernel_rfl) Tryz.ntmps12 rfl rfl fun E hT hE hN hR=>?_
 have hm:=mixO hE
 refine XK.r ?_
 refine XL.callKA hE rfl rfl rfl rfl trivial rfl rfl (hlo) ?_
 refine XL.e ?_
 refine XK.q ?_
 rw[show(e==0)=false by simpa using h]
 rfl
noncomputable def csB (k:K) (p:Int) (x:Ps) (P:List (List Nat)):Bool:=(slT k p x P P.length).1==0&&(slT k p x P P.length).2.length==0
theorem csafe_ok (k:K) (hF:KFacts k) (p:Int) (x:Ps) (hpl:plB k p x=true) (P:List (List Nat)) (hP:SlOk k p x P) (hco:Does Tryz.prog 81 [kV k] (nssV P)):Does Tryz.prog 12 [kV k,.c (.int .i64 p),psV x] (.tup [.c (.bool (csB k p x P)),.c (.int .i64 (slT k p x P P.length).1)]):=by
 have hlo:=lost_ok k hF p x hpl P hP hco
 unfold lostV at hlo
 unfold csB
 generalize slT k p x P P.length=S at*
 obtain⟨e,L⟩:=S
 dsimp only at*
 by_cases h:e=0
 ·subst h
  rw[if_neg (by simp)] at hlo
  exact csafe1 hlo
 ·rw[if_pos h] at hlo
  exact csafe2 h hlo
end
section
open Go.Eng Go.RowKit Go.Lib
theorem bsN_ok (l:List Nat) (d m:Nat) (hlen:l.length≤1000000) (m1:m<l.length) (m2:∀i,i<m→l.getD i default<d) (m3:∀i,m≤i→i<l.length→¬l.getD i default<d) (he:l.getD m default=d):Does Tryz.prog 60 [natsV l,.c (.int .i64 d)] (.tup [.c (.int .i64 m),.c (.bool true)]):=by
 refine Does.mk (fun _=>false) TT_ok Tryz.func60 rfl (by kernel_rfl) Tryz.ntmps60 rfl rfl fun E hT hE hN hR=>?_
 have hm:=mixO hE
 refine XK.w ?_
 refine XK.loop (ι:=Nat×Nat) (fun p=>ST.of [(0,natsV l),(1,.c (.int .i64 (d:Nat))),(6,.c (.int .i64 l.length)),(7,.c (.int .i64 p.1)),(8,.c (.int .i64 p.2))] [] 1000 54 (fun _=>false))
  (fun p=>p.1≤m∧m≤p.2∧p.2≤l.length) (fun p=>p.2-p.1) (0,l.length) ⟨Nat.zero_le _,by omega,Nat.le_refl _⟩
  (Weak.of hN rfl rfl rfl frI frI) fun p hp=>?_
 obtain⟨a,b⟩:=p
 obtain⟨h1,h2,h3⟩:=hp
 simp only at h1 h2 h3
 refine XK.c ?_ ?_<;>intro hlt<;>try simp at hlt
 ·have hh:=halfW a b
  refine XK.w ?_
  refine XK.weak (Weak.of (L:=[(0,natsV l),(1,.c (.int .i64 (d:Nat))),(6,.c (.int .i64 l.length)),(7,.c (.int .i64 a)),(8,.c (.int .i64 b)),(9,.c (.int .i64 (((a+b)/2:Nat):Int)))]) (O:=[]) (nx:=3000) (nt:=54) (md:=fun _=>false) hN rfl rfl rfl ⟨AvIs.refl _,rfl,rfl,rfl,rfl,cI hh⟩ trivial) ?_
  have hlt2:(a+b)/2<l.length:=by omega
  have fo:l.getD ((((a+b)/2:Nat):Int)).toNat default=l.getD ((a+b)/2) default:=rfl
  refine XK.r ?_
  refine XL.callLA hE rfl rfl rfl rfl trivial rfl (less_ok ((l.getD ((((a+b)/2:Nat):Int)).toNat default:Nat):Int) (d:Nat)) rfl ?_
  refine XL.e ?_
  rw[fo]
  refine XK.c ?_ ?_<;>intro h5
  ·have h5:=of_decide_eq_true h5
   refine XK.w ?_
   have h6:(a+b)/2<m:=Decidable.byContradiction fun h=>m3 ((a+b)/2) (by omega) hlt2 (by omega)
   exact XK.inv ⟨((a+b)/2+1,b),⟨by omega,h2,h3⟩,(Weak.of hN rfl rfl rfl frI frI),by omega⟩
  ·have h5:=of_decide_eq_false h5
   refine XK.w ?_
   have h6:m≤(a+b)/2:=Decidable.byContradiction fun h=>by have h7:=m2 ((a+b)/2) (by omega);omega
   exact XK.inv ⟨(a,(a+b)/2),⟨h1,h6,by show(a+b)/2≤_;omega⟩,(Weak.of hN rfl rfl rfl frI frI),by show(a+b)/2-a<b-a;omega⟩
 ·have hab:a=m:=by omega
  subst hab
  refine XK.r ?_
  refine XL.callGA hE rfl rfl rfl rfl rfl rfl rfl rfl (nanS_ok ((l.getD (a:Int).toNat default:Nat):Int)) rfl ?_
  refine XL.g ?_
  refine XL.callGA hE rfl rfl rfl rfl rfl rfl rfl rfl (nanS_ok (d:Nat)) rfl ?_
  refine XL.e ?_
  refine XK.q ?_
  simp
  refine⟨m1,?_⟩
  rw[←List.getD_eq_getElem?_getD]
  exact congrArg _ he
theorem clnP_units (l:List U) (hl:l.length≤1000000):Does Tryz.prog 123 [unitsV l] (unitsV l):=by
 refine Does.mk (fun d=>Nat.beq d 5) TT_ok Tryz.func123 rfl (by kernel_rfl) Tryz.ntmps123 rfl rfl fun E hT hE hN hR=>?_
 have hm:=mixO hE
 by_cases h0:l.length=0
 ·obtain rfl:l=[]:=List.length_eq_zero_iff.1 h0
  refine XK.rsNil 0 rfl fun A cap hc=>?_
  refine XK.c ?_ ?_<;>intro h1
  ·refine XK.w ?_
   refine XK.weak (Weak.rsNil 2 5 (fun i=>uc (([]:List U).getD i default)) (Nat.zero_le _) rfl) ?_
   refine XK.w ?_
   refine XK.q ?_
   rfl
  ·refine XK.weak (Weak.rsNil 0 5 (fun i=>uc (([]:List U).getD i default)) hc rfl) ?_
   refine XK.w ?_
   refine XK.weak (Weak.frozen (k:=21) hN rfl rfl) ?_
   refine XK.w ?_
   refine XK.l ?_
   exact⟨rfl,rfl,fun i hi=>absurd hi (Nat.not_lt_zero _)⟩
 ·refine XK.c ?_ ?_<;>intro h1
  ·cases h1
  ·refine XK.w ?_
   refine XK.weak (Weak.frozen (k:=21) hN rfl rfl) ?_
   refine XK.w ?_
   refine XK.l ?_
   exact⟨rfl,Nat.zero_add _,fun i hi=>by cases i<;>rfl⟩
theorem clnP_acts (l:List Act) (hl:l.length≤1000000):Does Tryz.prog 124 [actsV l] (actsV l):=by
 refine Does.mk (fun d=>Nat.beq d 5) TT_ok Tryz.func124 rfl (by kernel_rfl) Tryz.ntmps124 rfl rfl fun E hT hE hN hR=>?_
 have hm:=mixO hE
 by_cases h0:l.length=0
 ·obtain rfl:l=[]:=List.length_eq_zero_iff.1 h0
  refine XK.rsNil 0 rfl fun A cap hc=>?_
  refine XK.c ?_ ?_<;>intro h1
  ·refine XK.w ?_
   refine XK.weak (Weak.rsNil 2 7 (fun i=>actC (([]:List Act).getD i default)) (Nat.zero_le _) rfl) ?_
   refine XK.w ?_
   refine XK.q ?_
   rfl
  ·refine XK.weak (Weak.rsNil 0 7 (fun i=>actC (([]:List Act).getD i default)) hc rfl) ?_
   refine XK.w ?_
   refine XK.weak (Weak.frozen (k:=21) hN rfl rfl) ?_
   refine XK.w ?_
   refine XK.l ?_
   exact⟨rfl,rfl,fun i hi=>absurd hi (Nat.not_lt_zero _)⟩
 ·refine XK.c ?_ ?_<;>intro h1
  ·cases h1
  ·refine XK.w ?_
   refine XK.weak (Weak.frozen (k:=21) hN rfl rfl) ?_
   refine XK.w ?_
   refine XK.l ?_
   exact⟨rfl,Nat.zero_add _,fun i hi=>by cases i<;>rfl⟩
theorem clnP_cnds (l:List Cnd) (hl:l.length≤1000000):Does Tryz.prog 125 [cndsV l] (cndsV l):=by
 refine Does.mk (fun d=>Nat.beq d 5) TT_ok Tryz.func125 rfl (by kernel_rfl) Tryz.ntmps125 rfl rfl fun E hT hE hN hR=>?_
 have hm:=mixO hE
 by_cases h0:l.length=0
 ·obtain rfl:l=[]:=List.length_eq_zero_iff.1 h0
  refine XK.rsNil 0 rfl fun A cap hc=>?_
  refine XK.c ?_ ?_<;>intro h1
  ·refine XK.w ?_
   refine XK.weak (Weak.rsNil 2 2 (fun i=>cndC (([]:List Cnd).getD i default)) (Nat.zero_le _) rfl) ?_
   refine XK.w ?_
   refine XK.q ?_
   rfl
  ·refine XK.weak (Weak.rsNil 0 2 (fun i=>cndC (([]:List Cnd).getD i default)) hc rfl) ?_
   refine XK.w ?_
   refine XK.weak (Weak.frozen (k:=21) hN rfl rfl) ?_
   refine XK.w ?_
   refine XK.l ?_
   exact⟨rfl,rfl,fun i hi=>absurd hi (Nat.not_lt_zero _)⟩
 ·refine XK.c ?_ ?_<;>intro h1
  ·cases h1
  ·refine XK.w ?_
   refine XK.weak (Weak.frozen (k:=21) hN rfl rfl) ?_
   refine XK.w ?_
   refine XK.l ?_
   exact⟨rfl,Nat.zero_add _,fun i hi=>by cases i<;>rfl⟩
theorem clnP_cndsM (l:List Cnd) (h0:0<l.length) (hl:l.length≤1000000):DoesM Tryz.prog 125 [cndsV l] [] (.vec 0 0) [.vec 156 2 0 l.length (fun i=>cndC (l.getD i default))]:=by
 refine DoesM.mk (fun d=>Nat.beq d 5) 100 TT_ok Tryz.func125 rfl (by kernel_rfl) Tryz.ntmps125 rfl rfl rfl fun E hT hE hN hR=>?_
 have hm:=mixO hE
 refine XK.c ?_ ?_<;>intro h1
 ·cases h1
 ·refine XK.w ?_
  refine XK.weak (Weak.trans (Weak.stamp (k:=121) (t:=0) hN rfl rfl) (Weak.of (L:=[(2,.vec 121 0)]) (O:=[(121,.vec 156 2 0 l.length (fun i=>cndC (l.getD i default)))]) (nx:=1000) (nt:=8) (md:=fun _=>false) hN rfl rfl rfl frI ⟨⟨rfl,rfl,rfl⟩,Nat.zero_add _,fun j hj=>by rcases j with _|j<;>rfl⟩)) ?_
  refine XK.t [121] ?_ ?_
  ·exact frI
  ·exact frI
end
end Go.Proofs.YtgpkkllbejgmlaaGreatDoor
