import Derived.Test.YtgpkkllbejgmlaaGreatDoorZz8
set_option linter.unusedSimpArgs false
set_option linter.unusedVariables false
section
namespace Go.Eng
section
variable {E:Env} {T:TE} {st:ST} {Q:Exit→ST→Prop} {k:List It}
theorem Local.call {ops:Array Oper} {o:Oper} {f:Nat} {args args':List AV} {res:AV} (hc:callF st o.op=some (f,args)) (hg:o.guard=none) (hd:dstOk st o=true) (ho:AllP (o.op.operands.toList.flatMap (fun x=>oblG none (st.ev x))))
  (hP:Does E.P f args' res) (hok:CallOk st args args' res):Local E ops o st ⟨res,none⟩ (fpF ops.toList st o):=by
 intro s' ha
 have hev:=ev_agree ha
 have hc':callF s' o.op=some (f,args):=by
  rw[←hc]
  obtain⟨dst,op,type,pos,after,guard⟩:=o
  simp only at hc ⊢
  unfold callF at hc ⊢
  split
  ·rename_i c
   obtain⟨callee,cargs,tys⟩:=c
   simp only
   split
   ·rename_i fo
    have hm:cargs.toList.map (fun x=>strip (s'.ev x))=cargs.toList.map (fun x=>strip (st.ev x)):=List.map_congr_left fun x hx=>by
     simp only[hev x (by simp[Op.operands,Call.operands];exact .inr (by simpa using hx))]
    rw[hev fo (by simp[Op.operands,Call.operands]),hm]
   ·rfl
  ·rfl
 have ho':AllP (o.op.operands.toList.flatMap (fun x=>oblG none (s'.ev x))):=by
  have:o.op.operands.toList.flatMap (fun x=>oblG none (s'.ev x))=o.op.operands.toList.flatMap (fun x=>oblG none (st.ev x)):=by
   simp only[List.flatMap]
   congr 1
   exact List.map_congr_left fun x hx=>by simp only[hev x (by simpa using hx)]
  rw[this];exact ho
 have hks:∀kk∈AV.keysL args,s'.ob kk=st.ob kk:=by
  intro kk hkk
  have hmem:∃x∈o.op.operands,kk∈(st.ev x).keys:=by
   have lst:∀{l:List AV},kk∈AV.keysL l→∃y∈l,kk∈y.keys:=by
    intro l
    induction l with
    |nil=>intro h;cases h
    |cons a l ih=>
     intro h
     simp only[AV.keysL,List.mem_append] at h
     rcases h with h|h
     ·exact⟨a,by simp,h⟩
     ·obtain⟨y,hy,hk⟩:=ih h;exact⟨y,by simp[hy],hk⟩
   have lst2:∀{l:List AV} {y:AV},y∈l→kk∈y.keys→kk∈AV.keysL l:=by
    intro l
    induction l with
    |nil=>intro y hy;cases hy
    |cons a l ih=>
     intro y hy hk
     simp only[AV.keysL,List.mem_append]
     rcases List.mem_cons.1 hy with rfl|hy
     ·exact .inl hk
     ·exact .inr (ih hy hk)
   obtain⟨y,hy,hk⟩:=lst hkk
   obtain⟨dst,op,type,pos,after,guard⟩:=o
   simp only at hc ⊢
   unfold callF at hc
   split at hc
   ·rename_i c
    obtain⟨callee,cargs,tys⟩:=c
    simp only at hc
    split at hc
    ·rename_i fo
     split at hc
     ·rename_i fid first caps hfn
      simp only[Option.some.injEq,Prod.mk.injEq] at hc
      obtain⟨rfl,rfl⟩:=hc
      have hfk:(strip (st.ev fo)).keys=AV.keysL first++AV.keysL caps:=by rw[hfn];rfl
      simp only[List.mem_append,List.mem_map] at hy
      rcases hy with(hy|⟨x,hx,rfl⟩)|hy
      ·exact⟨fo,by simp[Op.operands,Call.operands],by rw[←strip_keys,hfk];exact List.mem_append_left _ (lst2 hy hk)⟩
      ·exact⟨x,by simp[Op.operands,Call.operands];exact .inr (by simpa using hx),by rwa[strip_keys] at hk⟩
      ·exact⟨fo,by simp[Op.operands,Call.operands],by rw[←strip_keys,hfk];exact List.mem_append_right _ (lst2 hy hk)⟩
     ·cases hc
    ·cases hc
   ·cases hc
  obtain⟨x,hx,hk⟩:=hmem
  exact ha.2.2.2.2 kk (List.mem_append_left _ (List.mem_flatMap.2 ⟨x,by simpa using hx,hk⟩))
 have hok':CallOk s' args args' res:=by
  rcases hok with⟨h1,h2⟩|h
  ·exact .inl ⟨by rw[lend_congr hks];exact h1,h2⟩
  ·exact .inr h
 have hd':dstOk s' o=true:=by simpa[dstOk,ha.2.1] using hd
 exact StepTo.call hc' hg hd' ho' hP hok'
theorem Local.callG {ops:Array Oper} {o:Oper} {j f:Nat} {pol g:Bool} {args args':List AV} {res:AV} (hc:callF st o.op=some (f,args)) (hg:o.guard=some (j,pol)) (hgv:gval st ops.toList j pol=some g) (hd:dstOk st o=true)
  (hda:ops.toList.all (dstOk st)=true) (ho:AllP (o.op.operands.toList.flatMap (fun x=>oblG (some g) (st.ev x)))) (hP:g=true→Does E.P f args' res) (hfl:res.flat=true) (hfr:args=args') (hks:AV.ksL (fun _=>false) args=true):Local E ops o st ⟨.gd g res,none⟩ (fpF ops.toList st o):=by
 intro s' ha
 have hev:=ev_agree ha
 have _:=hfl
 have hc':callF s' o.op=some (f,args):=by
  rw[←hc]
  obtain⟨dst,op,type,pos,after,guard⟩:=o
  simp only at hc ⊢
  unfold callF at hc ⊢
  split
  ·rename_i c
   obtain⟨callee,cargs,tys⟩:=c
   simp only
   split
   ·rename_i fo
    have hm:cargs.toList.map (fun x=>strip (s'.ev x))=cargs.toList.map (fun x=>strip (st.ev x)):=List.map_congr_left fun x hx=>by
     simp only[hev x (by simp[Op.operands,Call.operands];exact .inr (by simpa using hx))]
    rw[hev fo (by simp[Op.operands,Call.operands]),hm]
   ·rfl
  ·rfl
 have ho':AllP (o.op.operands.toList.flatMap (fun x=>oblG (some g) (s'.ev x))):=by
  have:o.op.operands.toList.flatMap (fun x=>oblG (some g) (s'.ev x))=o.op.operands.toList.flatMap (fun x=>oblG (some g) (st.ev x)):=by
   simp only[List.flatMap]
   congr 1
   exact List.map_congr_left fun x hx=>by simp only[hev x (by simpa using hx)]
  rw[this];exact ho
 have hgv':gval s' ops.toList j pol=some g:=by
  rw[←hgv]
  unfold gval
  cases hl:ops.toList[j]? with
  |none=>rfl
  |some o'=>
   cases hdd:o'.dst with
   |none=>simp only[hdd]
   |some d=>
    simp only[hdd]
    rw[ha.2.2.2.1 d (List.mem_append_right _ (by simp[hg] at*;simp[hl,hdd]))]
 have hd':dstOk s' o=true:=by simpa[dstOk,ha.2.1] using hd
 have hda':ops.toList.all (dstOk s')=true:=by
  rw[←hda]
  exact all_congr fun z _=>by simp[dstOk,ha.2.1]
 exact StepTo.callG hc' hg hgv' hd' hda' ho' hP (.inr ⟨hfr,hks⟩)
structure EffM where
 av:AV
 obs:List (Nat×Ob)
def putAll (ob:Nat→Option Ob):List (Nat×Ob)→Nat→Option Ob
 |[]=>ob
 |(k,o)::l=>upd (putAll ob l) k (some o)
def ST.appM (st:ST) (dst:Option Nat) (e:EffM):ST:=
 {st with fr:=(match dst with|some d=>upd st.fr d e.av|none=>st.fr),ob:=putAll st.ob e.obs}
def Eff.toM (e:Eff):EffM:=⟨e.av,match e.ob with|some p=>[p]|none=>[]⟩
theorem appM_toM (st:ST) (dst:Option Nat) (e:Eff):st.appM dst e.toM=st.app dst e:=by
 obtain⟨av,ob⟩:=e
 cases ob<;>rfl
def LocalM (E:Env) (ops:Array Oper) (o:Oper) (st:ST) (eff:EffM) (fp:List Nat×List Nat):Prop:=∀s',agree fp st s'→StepTo E ops o s' (s'.appM o.dst eff)
theorem Local.toM {E:Env} {ops:Array Oper} {o:Oper} {st:ST} {eff:Eff} {fp:List Nat×List Nat} (h:Local E ops o st eff fp):LocalM E ops o st eff.toM fp:=fun s' ha=>by
 rw[appM_toM];exact h s' ha
def Runs (E:Env) (ops:Array Oper):ST→List Oper→List (EffM×(List Nat×List Nat))→Prop
 |_,[],[]=>True
 |st,o::l,(eff,fp)::t=>LocalM E ops o st eff fp∧Runs E ops (st.appM o.dst eff) l t
 |_,_,_=>False
def endOf:ST→List Oper→List (EffM×(List Nat×List Nat))→ST
 |st,o::l,(eff,_)::t=>endOf (st.appM o.dst eff) l t
 |st,_,_=>st
def hits (d:Option Nat) (l:List Nat):Bool:=match d with
 |some d=>l.any (fun x=>Nat.beq x d)
 |none=>false
def hitsL (a b:List Nat):Bool:=a.any fun x=>b.any fun y=>Nat.beq y x
def sameD:Option Nat→Option Nat→Bool
 |some a,some b=>Nat.beq a b
 |_,_=>false
def indep (o o':Oper) (e e':EffM×(List Nat×List Nat)):Bool:=
 !hits o.dst e'.2.1&&!hits o'.dst e.2.1&&!sameD o.dst o'.dst&&!hitsL (e.1.obs.map (·.1)) e'.2.2&&!hitsL (e'.1.obs.map (·.1)) e.2.2&&!hitsL (e.1.obs.map (·.1)) (e'.1.obs.map (·.1))
def waits (o:Oper) (j:Nat):Bool:=o.after.toList.any fun e=>Region.binds .any e&&Nat.beq e.on j
def maskOf (ms:List Nat) (o:Oper):Nat:=o.after.toList.foldl (fun s e=>bif Region.binds .any e then s ||| 2^e.on ||| ms.getD e.on 0 else s) 0
def check1 (o:Oper) (e:EffM×(List Nat×List Nat)) (cm:Nat):Nat→List Oper→List (EffM×(List Nat×List Nat))→Bool
 |j,o'::l,e'::t=>(waits o j||indep o' o e' e||Nat.testBit cm j)&&check1 o e cm (j+1) l t
 |_,_,_=>true
def checkM:List Oper→List (EffM×(List Nat×List Nat))→List Nat→List Oper→List (EffM×(List Nat×List Nat))→Bool
 |pl,pe,ms,o::l,e::t=>check1 o e (maskOf ms o) 0 pl pe&&(o.after.toList.all fun x=>!Region.binds .any x||Nat.blt x.on pl.length)&&checkM (pl++[o]) (pe++[e]) (ms++[maskOf ms o]) l t
 |_,_,_,_,_=>true
def checkD (pl:List Oper) (pe:List (EffM×(List Nat×List Nat))) (l:List Oper) (t:List (EffM×(List Nat×List Nat))):Bool:=checkM pl pe [] l t
inductive Wt (l:List Oper):Nat→Nat→Prop
 |one {i j:Nat} {o:Oper} (ho:l[i]?=some o) (h:waits o j=true):Wt l i j
 |tr {i m j:Nat} {o:Oper} (ho:l[i]?=some o) (h:waits o m=true) (h':Wt l m j):Wt l i j
theorem Wt.mono {l l':List Oper} (hl:∀(i:Nat) (o:Oper),l[i]?=some o→l'[i]?=some o) {i j:Nat} (h:Wt l i j):Wt l' i j:=by
 induction h with
 |one ho h=>exact .one (hl _ _ ho) h
 |tr ho h _ ih=>exact .tr (hl _ _ ho) h ih
theorem maskOf_ok {ms:List Nat} {o:Oper} {j:Nat} (h:Nat.testBit (maskOf ms o) j=true):∃m,waits o m=true∧(m=j∨Nat.testBit (ms.getD m 0) j=true):=by
 have key:∀(l:List Edge) (s:Nat),Nat.testBit (l.foldl (fun s e=>bif Region.binds .any e then s ||| 2^e.on ||| ms.getD e.on 0 else s) s) j=true→
   Nat.testBit s j=true∨∃e∈l,Region.binds .any e=true∧(e.on=j∨Nat.testBit (ms.getD e.on 0) j=true):=by
  intro l
  induction l with
  |nil=>intro s hs;exact .inl hs
  |cons e l ih=>
   intro s hs
   simp only[List.foldl_cons] at hs
   rcases ih _ hs with h1|⟨e',he',h2⟩
   ·cases hb:Region.binds .any e with
    |false=>rw[hb,cond_false] at h1;exact .inl h1
    |true=>
     rw[hb,cond_true,Nat.testBit_or,Nat.testBit_or,Bool.or_eq_true,Bool.or_eq_true] at h1
     rcases h1 with(h1|h1)|h1
     ·exact .inl h1
     ·exact .inr ⟨e,by simp,hb,.inl (by rw[Nat.testBit_two_pow] at h1;simpa using h1)⟩
     ·exact .inr ⟨e,by simp,hb,.inr h1⟩
   ·exact .inr ⟨e',by simp[he'],h2⟩
 rcases key _ _ h with h1|⟨e,he,hb,h2⟩
 ·simp at h1
 ·exact⟨e.on,by simp only[waits,List.any_eq_true,Bool.and_eq_true];exact⟨e,he,hb,by simp⟩,h2⟩
end
section
variable {E:Env} {T:TE} {Q:Exit→ST→Prop} {k:List It}
def stM (dst:Nat→Option Nat) (eff:Nat→EffM) (L:Nat→Bool) (st:ST):Nat→ST
 |0=>st
 |m+1=>bif L m then(stM dst eff L st m).appM (dst m) (eff m) else stM dst eff L st m
variable {dst:Nat→Option Nat} {eff:Nat→EffM} {L L':Nat→Bool} {st:ST}
theorem stM_const (m:Nat):(stM dst eff L st m).nx=st.nx∧(stM dst eff L st m).nt=st.nt∧(stM dst eff L st m).md=st.md:=by
 induction m with
 |zero=>exact⟨rfl,rfl,rfl⟩
 |succ m ih=>
  simp only[stM]
  cases L m with
  |true=>exact ih
  |false=>exact ih
theorem app_fr {s:ST} {d:Option Nat} {e:EffM} (r:Nat):(s.appM d e).fr r=if d=some r then e.av else s.fr r:=by
 cases d with
 |none=>rfl
 |some d=>
  simp only[ST.appM]
  by_cases h:r=d
  ·subst h;simp[upd_same]
  ·rw[upd_other _ _ h,if_neg (by simp;exact fun e=>h e.symm)]
theorem putAll_mem {ob ob':Nat→Option Ob} {kk:Nat}:∀{l:List (Nat×Ob)},kk∈l.map (·.1)→putAll ob l kk=putAll ob' l kk
 |[],h=>by simp at h
 |(k,o)::l,h=>by
  simp only[putAll]
  by_cases hk:kk=k
  ·subst hk;rw[upd_same,upd_same]
  ·rw[upd_other _ _ hk,upd_other _ _ hk]
   refine putAll_mem ?_
   simp only[List.map_cons,List.mem_cons] at h
   exact h.resolve_left hk
theorem putAll_not {ob:Nat→Option Ob} {kk:Nat}:∀{l:List (Nat×Ob)},kk∉l.map (·.1)→putAll ob l kk=ob kk
 |[],_=>rfl
 |(k,o)::l,h=>by
  simp only[List.map_cons,List.mem_cons,not_or] at h
  simp only[putAll]
  rw[upd_other _ _ h.1]
  exact putAll_not h.2
theorem app_ob_in {s s':ST} {d d':Option Nat} {e:EffM} {kk:Nat} (h:kk∈e.obs.map (·.1)):(s.appM d e).ob kk=(s'.appM d' e).ob kk:=putAll_mem h
theorem app_ob_out {s:ST} {d:Option Nat} {e:EffM} {kk:Nat} (h:kk∉e.obs.map (·.1)):(s.appM d e).ob kk=s.ob kk:=putAll_not h
theorem stM_fr (r:Nat):∀m,(∀j,j<m→dst j=some r→L j=L' j)→(stM dst eff L st m).fr r=(stM dst eff L' st m).fr r
 |0,_=>rfl
 |m+1,h=>by
  have ih:=stM_fr r m (fun j hj=>h j (by omega))
  simp only[stM]
  by_cases hd:dst m=some r
  ·rw[h m (by omega) hd]
   cases L' m with
   |true=>simp only[cond_true,app_fr,hd,if_true]
   |false=>simpa using ih
  ·cases L m<;>cases L' m<;>simp only[cond_true,cond_false,app_fr,hd,if_false]<;>exact ih
theorem stM_ob (kk:Nat):∀m,(∀j,j<m→kk∈(eff j).obs.map (·.1)→L j=L' j)→(stM dst eff L st m).ob kk=(stM dst eff L' st m).ob kk
 |0,_=>rfl
 |m+1,h=>by
  have ih:=stM_ob kk m (fun j hj=>h j (by omega))
  simp only[stM]
  by_cases hd:kk∈(eff m).obs.map (·.1)
  ·rw[h m (by omega) hd]
   cases L' m with
   |true=>simp only[cond_true];exact app_ob_in hd
   |false=>simpa using ih
  ·cases L m<;>cases L' m<;>simp only[cond_true,cond_false]<;>(try rw[app_ob_out hd])<;>(try rw[app_ob_out hd])<;>exact ih
theorem stM_fr_ext (r i:Nat):∀m,i≤m→(∀j,i≤j→j<m→L j=true→dst j≠some r)→(stM dst eff L st m).fr r=(stM dst eff L st i).fr r:=by
 intro m
 induction m with
 |zero=>intro h _;rw[show i=0 by omega]
 |succ m ih=>
  intro h hd
  by_cases hi:i=m+1
  ·rw[hi]
  ·have:=ih (by omega) (fun j h1 h2=>hd j h1 (by omega))
   simp only[stM]
   cases hl:L m with
   |true=>rw[cond_true,app_fr,if_neg (hd m (by omega) (by omega) hl)];exact this
   |false=>rw[cond_false];exact this
theorem stM_ob_ext (kk i:Nat):∀m,i≤m→(∀j,i≤j→j<m→L j=true→kk∉(eff j).obs.map (·.1))→(stM dst eff L st m).ob kk=(stM dst eff L st i).ob kk:=by
 intro m
 induction m with
 |zero=>intro h _;rw[show i=0 by omega]
 |succ m ih=>
  intro h hd
  by_cases hi:i=m+1
  ·rw[hi]
  ·have:=ih (by omega) (fun j h1 h2=>hd j h1 (by omega))
   simp only[stM]
   cases hl:L m with
   |true=>rw[cond_true,app_ob_out (hd m (by omega) (by omega) hl)];exact this
   |false=>rw[cond_false];exact this
structure Checked (ops:List Oper) (tr:List (EffM×(List Nat×List Nat))):Prop where
 back:∀(i:Nat) (o:Oper),ops[i]?=some o→∀e∈o.after.toList,Region.binds .any e=true→e.on<i
 pair:∀(j i:Nat) (o o':Oper) (e e':EffM×(List Nat×List Nat)),j<i→ops[i]?=some o→ops[j]?=some o'→tr[i]?=some e→tr[j]?=some e'→Wt ops i j∨indep o' o e' e=true
theorem check1_ok {o:Oper} {e:EffM×(List Nat×List Nat)} {cm:Nat}:∀{l:List Oper} {t:List (EffM×(List Nat×List Nat))} {j0:Nat},check1 o e cm j0 l t=true→
  ∀(j:Nat) (o':Oper) (e':EffM×(List Nat×List Nat)),l[j]?=some o'→t[j]?=some e'→(waits o (j0+j)=true∨indep o' o e' e=true)∨Nat.testBit cm (j0+j)=true
 |[],t,j0,_,j,o',e',h,_=>by simp at h
 |o1::l,[],j0,_,j,o',e',_,h=>by simp at h
 |o1::l,e1::t,j0,h,j,o',e',h1,h2=>by
  simp only[check1,Bool.and_eq_true,Bool.or_eq_true] at h
  cases j with
  |zero=>
   simp at h1 h2
   subst h1 h2
   exact h.1
  |succ j=>
   simp at h1 h2
   have:=check1_ok h.2 j o' e' h1 h2
   rwa[show j0+1+j=j0+(j+1) by omega] at this
theorem checkM_ok:∀{l:List Oper} {t:List (EffM×(List Nat×List Nat))} {pl:List Oper} {pe:List (EffM×(List Nat×List Nat))} {ms:List Nat},l.length=t.length→pl.length=pe.length→ms.length=pl.length→(∀m j,Nat.testBit (ms.getD m 0) j=true→Wt pl m j)→checkM pl pe ms l t=true→Checked pl pe→Checked (pl++l) (pe++t)
 |[],[],pl,pe,ms,_,_,_,_,_,hc=>by simpa using hc
 |[],_::_,pl,pe,ms,h,_,_,_,_,_=>by simp at h
 |_::_,[],pl,pe,ms,h,_,_,_,_,_=>by simp at h
 |o::l,e::t,pl,pe,ms,hl,hp,hml,hms,h,hc=>by
  simp only[checkM,Bool.and_eq_true] at h
  have hmono:∀i o',pl[i]?=some o'→(pl++[o])[i]?=some o':=fun i o' hi=>by
   rw[List.getElem?_append_left (List.getElem?_eq_some_iff.1 hi).1];exact hi
  have hlast:(pl++[o])[pl.length]?=some o:=by simp
  have hmask:∀j,Nat.testBit (maskOf ms o) j=true→Wt (pl++[o]) pl.length j:=fun j hj=>by
   obtain⟨m,h1,h2⟩:=maskOf_ok hj
   rcases h2 with rfl|h2
   ·exact .one hlast h1
   ·exact .tr hlast h1 ((hms m j h2).mono hmono)
  have hms':∀m j,Nat.testBit ((ms++[maskOf ms o]).getD m 0) j=true→Wt (pl++[o]) m j:=fun m j hj=>by
   by_cases hm:m<ms.length
   ·have:(ms++[maskOf ms o]).getD m 0=ms.getD m 0:=by simp[List.getD,List.getElem?_append_left hm]
    rw[this] at hj
    exact(hms m j hj).mono hmono
   ·by_cases hm2:m=ms.length
    ·subst hm2
     have:(ms++[maskOf ms o]).getD ms.length 0=maskOf ms o:=by simp[List.getD]
     rw[this] at hj
     rw[hml]
     exact hmask j hj
    ·have:(ms++[maskOf ms o]).getD m 0=0:=by
      simp only[List.getD]
      rw[List.getElem?_eq_none (by simp;omega)];rfl
     rw[this] at hj
     simp at hj
  obtain⟨⟨h1,h2⟩,h3⟩:=h
  have:Checked (pl++[o]) (pe++[e]):=by
   refine⟨fun i o' hi x hx hb=>?_,fun j i o1 o' e1 e' hji hi hj he he'=>?_⟩
   ·by_cases hlt:i<pl.length
    ·rw[List.getElem?_append_left hlt] at hi
     exact hc.back i o' hi x hx hb
    ·rw[List.getElem?_append_right (by omega)] at hi
     have h0:i-pl.length=0:=by
      by_cases h0:i-pl.length=0
      ·exact h0
      ·obtain⟨n,hn⟩:=Nat.exists_eq_succ_of_ne_zero h0
       rw[hn] at hi;simp at hi
     rw[h0] at hi
     simp at hi
     subst hi
     have:=List.all_eq_true.1 h2 x hx
     simp only[hb,Bool.not_true,Bool.false_or] at this
     have:=Nat.lt_of_succ_le (Nat.le_of_ble_eq_true this)
     omega
   ·by_cases hlt:i<pl.length
    ·rw[List.getElem?_append_left hlt] at hi
     rw[List.getElem?_append_left (by omega)] at hj he he'
     exact(hc.pair j i o1 o' e1 e' hji hi hj he he').imp (fun h=>h.mono hmono) id
    ·rw[List.getElem?_append_right (by omega)] at hi he
     have h0:i-pl.length=0:=by
      by_cases h0:i-pl.length=0
      ·exact h0
      ·obtain⟨n,hn⟩:=Nat.exists_eq_succ_of_ne_zero h0
       rw[hn] at hi;simp at hi
     rw[←hp,h0] at he
     rw[h0] at hi
     simp at hi he
     subst hi he
     have hj':j<pl.length:=by omega
     rw[List.getElem?_append_left hj'] at hj
     rw[List.getElem?_append_left (by omega)] at he'
     have hii:i=pl.length:=by omega
     subst hii
     rcases check1_ok h1 j o' e' hj he' with(h4|h4)|h4
     ·exact .inl (.one hlast (by simpa using h4))
     ·exact .inr h4
     ·exact .inl (hmask j (by simpa using h4))
  have:=checkM_ok (l:=l) (t:=t) (by simpa using hl) (by simp[hp]) (by simp[hml]) hms' h3 this
  simpa using this
theorem checkD_ok {l:List Oper} {t:List (EffM×(List Nat×List Nat))} (hl:l.length=t.length) (hc:checkD [] [] l t=true):Checked l t:=by
 have:=checkM_ok (pl:=[]) (pe:=[]) (ms:=[]) hl rfl rfl (fun m j h=>by simp at h) hc ⟨fun i o h=>by simp at h,fun j i o o' e e' _ h=>by simp at h⟩
 simpa using this
theorem Runs.at_ {ops:Array Oper}:∀{l:List Oper} {tr:List (EffM×(List Nat×List Nat))} {st:ST},Runs E ops st l tr→l.length=tr.length∧∀(i:Nat) (o:Oper) (e:EffM×(List Nat×List Nat)),l[i]?=some o→tr[i]?=some e→
  LocalM E ops o (stM (fun j=>(l[j]?).bind (·.dst)) (fun j=>((tr[j]?).map (·.1)).getD ⟨.junk,[]⟩) (fun _=>true) st i) e.1 e.2
 |[],[],st,_=>⟨rfl,fun i o e h=>by simp at h⟩
 |[],_::_,st,h=>h.elim
 |_::_,[],st,h=>h.elim
 |o::l,(eff,fp)::t,st,h=>by
  obtain⟨h1,h2⟩:=h
  obtain⟨h3,h4⟩:=Runs.at_ h2
  refine⟨by simp[h3],fun i o' e ho he=>?_⟩
  cases i with
  |zero=>
   simp at ho he
   subst ho he
   exact h1
  |succ i=>
   simp at ho he
   have:=h4 i o' e ho he
   have sh:∀m,stM (fun j=>((o::l)[j]?).bind (·.dst)) (fun j=>((((eff,fp)::t)[j]?).map (·.1)).getD ⟨.junk,[]⟩) (fun _=>true) st (m+1)=
     stM (fun j=>(l[j]?).bind (·.dst)) (fun j=>((t[j]?).map (·.1)).getD ⟨.junk,[]⟩) (fun _=>true) (st.appM o.dst eff) m:=by
    intro m
    induction m with
    |zero=>simp[stM]
    |succ m ih=>
     rw[stM,ih]
     simp[stM]
   rw[sh i]
   exact this
theorem endOf_eq:∀{l:List Oper} {tr:List (EffM×(List Nat×List Nat))} {st:ST},l.length=tr.length→endOf st l tr=stM (fun j=>(l[j]?).bind (·.dst)) (fun j=>((tr[j]?).map (·.1)).getD ⟨.junk,[]⟩) (fun _=>true) st l.length
 |[],[],st,_=>rfl
 |[],_::_,st,h=>by simp at h
 |_::_,[],st,h=>by simp at h
 |o::l,(eff,fp)::t,st,h=>by
  simp only[endOf]
  rw[endOf_eq (by simpa using h)]
  have sh:∀m,stM (fun j=>((o::l)[j]?).bind (·.dst)) (fun j=>((((eff,fp)::t)[j]?).map (·.1)).getD ⟨.junk,[]⟩) (fun _=>true) st (m+1)=
    stM (fun j=>(l[j]?).bind (·.dst)) (fun j=>((t[j]?).map (·.1)).getD ⟨.junk,[]⟩) (fun _=>true) (st.appM o.dst eff) m:=by
   intro m
   induction m with
   |zero=>simp[stM]
   |succ m ih=>
    rw[stM,ih]
    simp[stM]
  rw[List.length_cons,sh]
theorem ST.ext' {s s':ST} (h1:∀r,s.fr r=s'.fr r) (h2:∀r,s.ob r=s'.ob r) (h3:s.nx=s'.nx) (h4:s.nt=s'.nt) (h5:s.md=s'.md):s=s':=by
 cases s;cases s'
 simp only at h1 h2 h3 h4 h5
 have e1:=funext h1
 have e2:=funext h2
 subst e1 e2 h3 h4 h5
 rfl
theorem draw_any {ops:Array Oper} {tr:List (EffM×(List Nat×List Nat))} (hr:Runs E ops st ops.toList tr) (hc:Checked ops.toList tr) {Q':Exit→Act→World→Prop}
  (hQ:∀a w,Sat E (endOf st ops.toList tr) a w→Q' .normal a w):
  ∀(fuel:Nat) (listed:Array Bool) (a:Act) (w:World),listed.size=ops.size→(listed.toList.countP (·==false))=fuel→
   (∀i o,ops[i]?=some o→listed.getD i true=true→∀e∈o.after,Region.binds .any e=true→listed.getD e.on false=true)→
   Sat E (stM (fun j=>(ops.toList[j]?).bind (·.dst)) (fun j=>((tr[j]?).map (·.1)).getD ⟨.junk,[]⟩) (fun j=>listed.getD j true) st ops.size) a w→
   wpAnyIn (FW E.rd) 0 E.P .any ops Q' fuel listed a w:=by
 obtain⟨hlen,hloc⟩:=hr.at_
 simp only[Array.length_toList] at hlen
 intro fuel
 -- no operation left:the end
 have hend:∀(listed:Array Bool) (a:Act) (w:World),listed.size=ops.size→(∀i,i<ops.size→listed.getD i true=true)→
   Sat E (stM (fun j=>(ops.toList[j]?).bind (·.dst)) (fun j=>((tr[j]?).map (·.1)).getD ⟨.junk,[]⟩) (fun j=>listed.getD j true) st ops.size) a w→Q' .normal a w:=by
  intro listed a w hsz hall hs
  refine hQ a w ?_
  rw[endOf_eq (by simpa using hlen)]
  rw[Array.length_toList]
  have:stM (fun j=>(ops.toList[j]?).bind (·.dst)) (fun j=>((tr[j]?).map (·.1)).getD ⟨.junk,[]⟩) (fun _=>true) st ops.size=stM (fun j=>(ops.toList[j]?).bind (·.dst)) (fun j=>((tr[j]?).map (·.1)).getD ⟨.junk,[]⟩) (fun j=>listed.getD j true) st ops.size:=by
   refine ST.ext' (fun r=>stM_fr r _ fun j hj _=>(hall j hj).symm) (fun r=>stM_ob r _ fun j hj _=>(hall j hj).symm) ?_ ?_ ?_
   ·rw[(stM_const _).1,(stM_const _).1]
   ·rw[(stM_const _).2.1,(stM_const _).2.1]
   ·rw[(stM_const _).2.2,(stM_const _).2.2]
  rw[this];exact hs
 have hready0:∀(listed:Array Bool),listed.size=ops.size→Region.ready .any ops listed=[]→∀i,i<ops.size→listed.getD i true=true:=by
  intro listed hsz hre i
  induction i using Nat.strongRecOn with
  |_ i ih=>
   intro hi
   cases hb:listed.getD i true with
   |true=>rfl
   |false=>
    exfalso
    have:i∈Region.ready .any ops listed:=by
     simp only[Region.ready,List.mem_filter,List.mem_range]
     refine⟨hi,?_⟩
     have ho:ops[i]?=some ops[i]:=Array.getElem?_eq_getElem hi
     simp only[hb,Bool.not_false,Bool.true_and,ho,Option.map_some,Option.getD_some]
     rw[←Array.all_toList,List.all_eq_true]
     intro e he
     cases hbd:Region.binds .any e with
     |false=>rfl
     |true=>
      have hlt:=hc.back i ops[i] (by simp) e he hbd
      have:=ih e.on hlt (by omega)
      have hlt':e.on<listed.size:=by omega
      simp[hlt'] at this ⊢
      exact this
    rw[hre] at this
    cases this
 induction fuel with
 |zero=>
  intro listed a w hsz hcnt _ hs
  have hall:∀i,i<ops.size→listed.getD i true=true:=by
   intro i hi
   have hlt:i<listed.size:=by omega
   cases hb:listed.getD i true with
   |true=>rfl
   |false=>
    exfalso
    have hmem:listed[i]∈listed.toList:=by simp
    have h0:=List.countP_eq_zero.1 hcnt _ hmem
    simp[hlt] at hb
    simp[hb] at h0
  refine⟨?_,hend listed a w hsz hall hs⟩
  cases hre:Region.ready .any ops listed with
  |nil=>rfl
  |cons x xs=>
   have hx:x∈Region.ready .any ops listed:=by rw[hre];simp
   simp only[Region.ready,List.mem_filter,List.mem_range] at hx
   have:=hall x hx.1
   simp only[this,Bool.not_true,Bool.false_and] at hx
   cases hx.2
 |succ fuel ih=>
  intro listed a w hsz hcnt hcl hs
  refine⟨fun hre=>hend listed a w hsz (hready0 listed hsz hre) hs,fun i hi=>?_⟩
  simp only[Region.ready,List.mem_filter,List.mem_range,Bool.and_eq_true,Bool.not_eq_true'] at hi
  obtain⟨hin,hun,hdeps⟩:=hi
  have ho:ops[i]?=some ops[i]:=Array.getElem?_eq_getElem hin
  have hoL:ops.toList[i]?=some ops[i]:=by simp
  have hti:i<tr.length:=by omega
  have he:tr[i]?=some tr[i]:=List.getElem?_eq_getElem hti
  simp only[ho,Option.map_some,Option.getD_some] at hdeps
  have hdeps':∀e∈(ops[i]).after,Region.binds .any e=true→listed.getD e.on false=true:=by
   intro e hem hb
   rw[←Array.all_toList,List.all_eq_true] at hdeps
   have:=hdeps e (by simpa using hem)
   simpa[hb] using this
  have hwl:∀(o:Oper) (j:Nat),waits o j=true→∃e∈o.after,Region.binds .any e=true∧e.on=j:=by
   intro o j hw
   simp only[waits,List.any_eq_true,Bool.and_eq_true] at hw
   obtain⟨e,h1,h2,h3⟩:=hw
   exact⟨e,by simpa using h1,h2,Nat.eq_of_beq_eq_true h3⟩
  have gd:∀j,j<ops.size→listed.getD j false=listed.getD j true:=fun j hj=>by
   have hlt:j<listed.size:=by omega
   simp[hlt]
  have down:∀{m j:Nat},Wt ops.toList m j→listed.getD m true=true→listed.getD j true=true:=by
   intro m j hw
   induction hw with
   |one ho h=>
    intro hm
    obtain⟨e,h1,h2,h3⟩:=hwl _ _ h
    have:=hcl _ _ (by simpa using ho) hm e h1 h2
    rw[h3] at this
    rename_i i' j' o'
    by_cases hj:j'<listed.size
    ·simp[hj] at this ⊢;exact this
    ·simp[hj] at this
   |tr ho h _ ih=>
    intro hm
    obtain⟨e,h1,h2,h3⟩:=hwl _ _ h
    have:=hcl _ _ (by simpa using ho) hm e h1 h2
    rw[h3] at this
    rename_i i' m' j' o' _
    refine ih ?_
    by_cases hj:m'<listed.size
    ·simp[hj] at this ⊢;exact this
    ·simp[hj] at this
  have first:∀{j:Nat},Wt ops.toList i j→listed.getD j true=true:=by
   intro j hw
   have st:∀{o:Oper} {m:Nat},ops.toList[i]?=some o→waits o m=true→listed.getD m true=true:=by
    intro o m ho h
    rw[hoL] at ho
    injection ho with ho
    subst ho
    obtain⟨e,h1,h2,h3⟩:=hwl _ _ h
    have:=hdeps' e h1 h2
    rw[h3] at this
    by_cases hj:m<listed.size
    ·simp[hj] at this ⊢;exact this
    ·simp[hj] at this
   cases hw with
   |one ho h=>exact st ho h
   |tr ho h h'=>exact down h' (st ho h)
  -- what stands ahead and is waited for is done;what waits for it is not
  have hback:∀j,j<i→indep (ops.toList[j]?.getD default) ops[i] ((tr[j]?).getD (⟨.junk,[]⟩,[],[])) tr[i]=false→listed.getD j true=true:=by
   intro j hj hnd
   have hjs:j<ops.size:=by omega
   have hoj:ops.toList[j]?=some ops[j]:=by simp[hjs]
   have hej:tr[j]?=some (tr[j]'(by omega)):=List.getElem?_eq_getElem (by omega)
   rw[hoj,hej] at hnd
   rcases hc.pair j i _ _ _ _ hj hoL hoj he hej with hw|hw
   ·exact first hw
   ·simp only[Option.getD_some] at hnd
    rw[hw] at hnd;cases hnd
  have hfore:∀j,i<j→j<ops.size→indep ops[i] (ops.toList[j]?.getD default) tr[i] ((tr[j]?).getD (⟨.junk,[]⟩,[],[]))=false→listed.getD j true=false:=by
   intro j hij hjs hnd
   have hoj:ops.toList[j]?=some ops[j]:=by simp[hjs]
   have hej:tr[j]?=some (tr[j]'(by omega)):=List.getElem?_eq_getElem (by omega)
   rw[hoj,hej] at hnd
   rcases hc.pair i j _ _ _ _ hij hoj hoL hej he with hw|hw
   ·cases hb:listed.getD j true with
    |false=>rfl
    |true=>
     have:=down hw hb
     rw[hun] at this
     cases this
   ·simp only[Option.getD_some] at hnd
    rw[hw] at hnd;cases hnd
  have hdsti:∀j (hj:j<ops.size),(ops.toList[j]?).bind (·.dst)=ops[j].dst:=fun j hj=>by simp[hj]
  have heffi:∀j (hj:j<tr.length),((tr[j]?).map (·.1)).getD (⟨.junk,[]⟩:EffM)=tr[j].1:=fun j hj=>by simp[hj]
  have nind:∀{o o':Oper} {e e':EffM×(List Nat×List Nat)},(hits o.dst e'.2.1=true∨hits o'.dst e.2.1=true∨sameD o.dst o'.dst=true∨hitsL (e.1.obs.map (·.1)) e'.2.2=true∨hitsL (e'.1.obs.map (·.1)) e.2.2=true∨hitsL (e.1.obs.map (·.1)) (e'.1.obs.map (·.1))=true)→indep o o' e e'=false:=by
   intro o o' e e' h
   unfold indep
   rcases h with h|h|h|h|h|h<;>simp[h]
  have hitsT:∀{r:Nat} {l:List Nat},r∈l→hits (some r) l=true:=fun{r l} hr=>List.any_eq_true.2 ⟨r,hr,by simp⟩
  have hitsLT:∀{r:Nat} {l l':List Nat},r∈l→r∈l'→hitsL l l'=true:=fun{r l l'} h1 h2=>List.any_eq_true.2 ⟨r,h1,List.any_eq_true.2 ⟨r,h2,by simp⟩⟩
  -- the state looks as in the text's order
  have hag:agree tr[i].2 (stM (fun j=>(ops.toList[j]?).bind (·.dst)) (fun j=>((tr[j]?).map (·.1)).getD ⟨.junk,[]⟩) (fun _=>true) st i)
    (stM (fun j=>(ops.toList[j]?).bind (·.dst)) (fun j=>((tr[j]?).map (·.1)).getD ⟨.junk,[]⟩) (fun j=>listed.getD j true) st ops.size):=by
   refine⟨by rw[(stM_const _).1,(stM_const _).1],by rw[(stM_const _).2.1,(stM_const _).2.1],by rw[(stM_const _).2.2,(stM_const _).2.2],fun r hrm=>?_,fun kk hkm=>?_⟩
   ·rw[stM_fr_ext r i _ (by omega) ?_]
    ·refine stM_fr r i fun j hj hd=>?_
     have hjs:j<ops.size:=by omega
     simp only[hdsti j hjs] at hd
     have:listed.getD j true=true:=hback j hj (nind (.inl (by simp[hjs,hd];exact hitsT hrm)))
     exact this
    ·intro j hij hj hL hd
     by_cases hji:j=i
     ·subst hji;simp only[hun] at hL;cases hL
     ·simp only[hdsti j hj] at hd
      have:=hfore j (by omega) hj (nind (.inr (.inl (by simp[hj,hd];exact hitsT hrm))))
      simp only[this] at hL;cases hL
   ·rw[stM_ob_ext kk i _ (by omega) ?_]
    ·refine stM_ob kk i fun j hj hd=>?_
     have hjt:j<tr.length:=by omega
     simp only[heffi j hjt] at hd
     have:listed.getD j true=true:=hback j hj (nind (.inr (.inr (.inr (.inl (by simp only[List.getElem?_eq_getElem hjt,Option.getD_some];exact hitsLT hd hkm))))))
     exact this
    ·intro j hij hj hL hd
     by_cases hji:j=i
     ·subst hji;simp only[hun] at hL;cases hL
     ·have hjt:j<tr.length:=by omega
      simp only[heffi j hjt] at hd
      have:=hfore j (by omega) hj (nind (.inr (.inr (.inr (.inr (.inl (by simp only[List.getElem?_eq_getElem hjt,Option.getD_some];exact hitsLT hd hkm)))))))
      simp only[this] at hL;cases hL
  have hstep:=hloc i ops[i] tr[i] hoL he _ hag a w hs Q'
  -- the state behind it
  have hset:∀j,(listed.setIfInBounds i true).getD j true=if j=i then true else listed.getD j true:=by
   intro j
   by_cases hji:j=i
   ·subst hji
    have hlt:j<listed.size:=by omega
    simp[hlt]
   ·rw[if_neg hji]
    simp[Array.getElem?_setIfInBounds_ne (Ne.symm hji)]
  have hnext:∀a' w',Sat E ((stM (fun j=>(ops.toList[j]?).bind (·.dst)) (fun j=>((tr[j]?).map (·.1)).getD ⟨.junk,[]⟩) (fun j=>listed.getD j true) st ops.size).appM ops[i].dst tr[i].1) a' w'→
    wpAnyIn (FW E.rd) 0 E.P .any ops Q' fuel (listed.setIfInBounds i true) a' w':=by
   intro a' w' hs'
   refine ih (listed.setIfInBounds i true) a' w' (by simpa using hsz) ?_ ?_ ?_
   ·have hlt:i<listed.size:=by omega
    have hli:listed.toList[i]'(by simpa using hlt)=false:=by
     have:=hun
     simp[hlt] at this
     simpa using this
    rw[Array.toList_setIfInBounds]
    have hd1:listed.toList=listed.toList.take i++false::listed.toList.drop (i+1):=by
     rw[←hli,List.getElem_cons_drop,List.take_append_drop]
    rw[hd1] at hcnt
    rw[List.set_eq_take_append_cons_drop,if_pos (by simpa using hlt)]
    simp only[List.countP_append,List.countP_cons] at hcnt ⊢
    simp at hcnt ⊢
    omega
   ·intro j o hj hL e hem hb
    rw[hset] at hL
    have key:listed.getD e.on false=true→(listed.setIfInBounds i true).getD e.on false=true:=by
     intro h
     by_cases hei:e.on=i
     ·rw[hei]
      have hlt:i<listed.size:=by omega
      simp[hlt]
     ·simpa[Array.getElem?_setIfInBounds_ne (Ne.symm hei)] using h
    by_cases hji:j=i
    ·subst hji
     rw[ho] at hj
     injection hj with hj
     subst hj
     exact key (hdeps' e hem hb)
    ·rw[if_neg hji] at hL
     exact key (hcl j o hj hL e hem hb)
   ·have:stM (fun j=>(ops.toList[j]?).bind (·.dst)) (fun j=>((tr[j]?).map (·.1)).getD ⟨.junk,[]⟩) (fun j=>(listed.setIfInBounds i true).getD j true) st ops.size=
      (stM (fun j=>(ops.toList[j]?).bind (·.dst)) (fun j=>((tr[j]?).map (·.1)).getD ⟨.junk,[]⟩) (fun j=>listed.getD j true) st ops.size).appM ops[i].dst tr[i].1:=by
     refine ST.ext' (fun r=>?_) (fun kk=>?_) ?_ ?_ ?_
     ·rw[app_fr]
      by_cases hd:ops[i].dst=some r
      ·rw[if_pos hd]
       rw[stM_fr_ext r (i+1) _ (by omega) ?_]
       ·simp only[stM,hset,if_true,cond_true,app_fr,hdsti i hin,hd,heffi i hti]
       ·intro j hij hj hL hdj
        rw[hset,if_neg (by omega)] at hL
        simp only[hdsti j hj] at hdj
        have:=hfore j (by omega) hj (nind (.inr (.inr (.inl (by simp[hj,hd,hdj,sameD])))))
        rw[this] at hL;cases hL
      ·rw[if_neg hd]
       refine stM_fr r _ fun j hj hdj=>?_
       simp only[hdsti j hj] at hdj
       have hji:j≠i:=fun e=>by subst e;exact hd hdj
       rw[hset,if_neg hji]
     ·by_cases hd:kk∈tr[i].1.obs.map (·.1)
      ·rw[stM_ob_ext kk (i+1) _ (by omega) ?_]
       ·simp only[stM,hset,if_true,cond_true,heffi i hti]
        exact app_ob_in hd
       ·intro j hij hj hL hdj
        rw[hset,if_neg (by omega)] at hL
        have hjt:j<tr.length:=by omega
        simp only[heffi j hjt] at hdj
        have:=hfore j (by omega) hj (nind (.inr (.inr (.inr (.inr (.inr (by simp only[List.getElem?_eq_getElem hjt,Option.getD_some];exact hitsLT hd hdj)))))))
        rw[this] at hL;cases hL
      ·rw[app_ob_out hd]
       refine stM_ob kk _ fun j hj hdj=>?_
       have hjt:j<tr.length:=by omega
       simp only[heffi j hjt] at hdj
       have hji:j≠i:=fun e=>by subst e;exact hd hdj
       rw[hset,if_neg hji]
     ·rw[(stM_const _).1];show st.nx=(stM _ _ _ st _).nx;rw[(stM_const _).1]
     ·rw[(stM_const _).2.1];show st.nt=(stM _ _ _ st _).nt;rw[(stM_const _).2.1]
     ·rw[(stM_const _).2.2];show st.md=(stM _ _ _ st _).md;rw[(stM_const _).2.2]
    rw[this]
    exact hs'
  unfold wpOpIn
  simp only[ho]
  split
  ·rename_i hw
   rw[if_pos hw] at hstep
   exact Oper.wpIn_mono hnext hstep
  ·rename_i hw
   rw[if_neg hw] at hstep
   exact⟨fun _ _=>trivial,hnext _ _ hstep⟩
end
theorem XK.draw {E:Env} {Q:Exit→ST→Prop} {k:List It} {st:ST} (hm:E.P.follows .mixedOrders=true) {id:Nat} {ops:Array Oper} {tr:List (EffM×(List Nat×List Nat))} (hr:Runs E ops st ops.toList tr) (hc:checkD [] [] ops.toList tr=true)
  (h:XK E k Q (endOf st ops.toList tr).bump):XK E (.code (.region id ops true)::k) Q st:=by
 intro a w hs
 refine wpIn_region_any hm ?_
 have hlen:=hr.at_.1
 have hck:Checked ([]++ops.toList) ([]++tr):=checkD_ok hlen hc
 simp only[List.nil_append] at hck
 have hrep:∀j,(Array.replicate ops.size false).getD j true=if j<ops.size then false else true:=fun j=>by
  by_cases hj:j<ops.size<;>simp[hj]
 refine draw_any hr hck (Q':=Post E (XQ E k Q)) (fun a' w' hs'=>⟨_,hs'.bump,h⟩) ops.size (Array.replicate ops.size false) a _ (by simp) (by simp[List.countP_replicate]) (fun i o hi hL=>?_) ?_
 ·have hlt:=(Array.getElem?_eq_some_iff.1 hi).1
  rw[hrep,if_pos hlt] at hL
  cases hL
 ·have hz:∀m,m≤ops.size→stM (fun j=>(ops.toList[j]?).bind (·.dst)) (fun j=>((tr[j]?).map (·.1)).getD ⟨.junk,[]⟩) (fun j=>(Array.replicate ops.size false).getD j true) st m=st:=by
   intro m
   induction m with
   |zero=>intro _;rfl
   |succ m ih=>
    intro hm
    simp only[stM,hrep,if_pos (show m<ops.size by omega),cond_false]
    simpa[hrep] using ih (by omega)
  rw[hz _ (Nat.le_refl _)]
  obtain⟨ρ,hs⟩:=hs
  exact⟨ρ,hs.drew⟩
def XD (E:Env) (ops:Array Oper) (Q:Exit→ST→Prop) (k:List It) (tr0:List (EffM×(List Nat×List Nat))) (l:List Oper) (st:ST):Prop:=
 ∃tr,Runs E ops st l tr∧checkD [] [] ops.toList (tr0++tr)=true∧XK E k Q (endOf st l tr).bump
section
variable {E:Env} {T:TE} {Q:Exit→ST→Prop} {k:List It} {ops:Array Oper} {tr0:List (EffM×(List Nat×List Nat))}
theorem XK.drawn {st:ST} (hm:E.P.follows .mixedOrders=true) {id:Nat} (h:XD E ops Q k [] ops.toList st):XK E (.code (.region id ops true)::k) Q st:=
 let⟨_,h1,h2,h3⟩:=h
 XK.draw hm h1 h2 h3
theorem XD.nil {st:ST} (hc:checkD [] [] ops.toList tr0=true) (h:XK E k Q st.bump):XD E ops Q k tr0 [] st:=⟨[],trivial,by simpa using hc,h⟩
theorem XD.stepM {st:ST} {o:Oper} {rest:List Oper} {eff:EffM} {fp:List Nat×List Nat} (hl:LocalM E ops o st eff fp) (h:XD E ops Q k (tr0++[(eff,fp)]) rest (st.appM o.dst eff)):XD E ops Q k tr0 (o::rest) st:=by
 obtain⟨tr,h1,h2,h3⟩:=h
 exact⟨(eff,fp)::tr,⟨hl,h1⟩,by simpa using h2,h3⟩
theorem XD.step {st:ST} {o:Oper} {rest:List Oper} {eff:Eff} {fp:List Nat×List Nat} (hl:Local E ops o st eff fp) (h:XD E ops Q k (tr0++[(eff.toM,fp)]) rest (st.app o.dst eff)):XD E ops Q k tr0 (o::rest) st:=
 XD.stepM hl.toM (by rw[appM_toM];exact h)
theorem XD.call {st:ST} {o:Oper} {rest:List Oper} {f:Nat} {args args':List AV} {res:AV} (hc:callF st o.op=some (f,args)) (hg:o.guard=none) (hd:dstOk st o=true) (ho:AllP (o.op.operands.toList.flatMap (fun x=>oblG none (st.ev x))))
  (hP:Does E.P f args' res) (hok:CallOk st args args' res) (h:XD E ops Q k (tr0++[(⟨res,[]⟩,fpF ops.toList st o)]) rest (st.app o.dst ⟨res,none⟩)):XD E ops Q k tr0 (o::rest) st:=XD.step (Local.call hc hg hd ho hP hok) h
theorem XD.callG {st:ST} {o:Oper} {rest:List Oper} {j f:Nat} {pol g:Bool} {args args':List AV} {res:AV} (hc:callF st o.op=some (f,args)) (hg:o.guard=some (j,pol)) (hgv:gval st ops.toList j pol=some g) (hd:dstOk st o=true)
  (hda:ops.toList.all (dstOk st)=true) (ho:AllP (o.op.operands.toList.flatMap (fun x=>oblG (some g) (st.ev x)))) (hP:g=true→Does E.P f args' res) (hfl:res.flat=true) (hfr:args=args') (hks:AV.ksL (fun _=>false) args=true)
  (h:XD E ops Q k (tr0++[(⟨.gd g res,[]⟩,fpF ops.toList st o)]) rest (st.app o.dst ⟨.gd g res,none⟩)):XD E ops Q k tr0 (o::rest) st:=XD.step (Local.callG hc hg hgv hd hda ho hP hfl hfr hks) h
structure RunD where
 obl:List Prop
 tr:List (EffM×(List Nat×List Nat))
 fr:Nat→AV
 ob:Nat→Option Ob
 rest:List Oper
def runD (T:TE) (l:List Oper) (nx nt:Nat) (md:Nat→Bool):List Prop→List (EffM×(List Nat×List Nat))→(Nat→AV)→(Nat→Option Ob)→List Oper→RunD
 |acc,tr,fr,ob,[]=>⟨acc,tr,fr,ob,[]⟩
 |acc,tr,fr,ob,o::rest=>match stepN T l fr ob nx nt md o with
  |some (obl,⟨av,eo⟩)=>match frc av,eo,o.dst with
   |some x,none,some d=>(match obl with
    |[]=>runD T l nx nt md acc (tr++[(⟨x,[]⟩,fpF l ⟨fr,ob,nx,nt,md⟩ o)]) (upd fr d x) ob rest
    |p::ps=>runD T l nx nt md (pushR (p::ps) acc) (tr++[(⟨x,[]⟩,fpF l ⟨fr,ob,nx,nt,md⟩ o)]) (upd fr d x) ob rest)
   |some x,some (k,o'),some d=>(match frcKO k o' with
    |some (k,o2)=>(match obl with
     |[]=>runD T l nx nt md acc (tr++[(⟨x,[(k,o2)]⟩,fpF l ⟨fr,ob,nx,nt,md⟩ o)]) (upd fr d x) (upd ob k (some o2)) rest
     |p::ps=>runD T l nx nt md (pushR (p::ps) acc) (tr++[(⟨x,[(k,o2)]⟩,fpF l ⟨fr,ob,nx,nt,md⟩ o)]) (upd fr d x) (upd ob k (some o2)) rest)
    |none=>⟨acc,tr,fr,ob,o::rest⟩)
   |some x,some (k,o'),none=>(match frcKO k o' with
    |some (k,o2)=>(match obl with
     |[]=>runD T l nx nt md acc (tr++[(⟨x,[(k,o2)]⟩,fpF l ⟨fr,ob,nx,nt,md⟩ o)]) fr (upd ob k (some o2)) rest
     |p::ps=>runD T l nx nt md (pushR (p::ps) acc) (tr++[(⟨x,[(k,o2)]⟩,fpF l ⟨fr,ob,nx,nt,md⟩ o)]) fr (upd ob k (some o2)) rest)
    |none=>⟨acc,tr,fr,ob,o::rest⟩)
   |_,_,_=>⟨acc,tr,fr,ob,o::rest⟩
  |none=>⟨acc,tr,fr,ob,o::rest⟩
theorem XD.run (hT:TOk E.P T) {nx nt:Nat} {md:Nat→Bool} (hd:ops.toList.all (dstOk ⟨fun _=>.junk,fun _=>none,nx,nt,md⟩)=true):∀{l:List Oper} {acc:List Prop} {tr0 tr':List (EffM×(List Nat×List Nat))} {fr fr':Nat→AV} {ob ob':Nat→Option Ob} {obl:List Prop} {rest:List Oper},(∀o∈l,o∈ops.toList)→runD T ops.toList nx nt md acc tr0 fr ob l=⟨obl,tr',fr',ob',rest⟩→(∀p∈obl,p)→
  XD E ops Q k tr' rest ⟨fr',ob',nx,nt,md⟩→XD E ops Q k tr0 l ⟨fr,ob,nx,nt,md⟩∧∀p∈acc,p
 |[],acc,tr0,tr',fr,fr',ob,ob',obl,rest,_,hr,ho,h=>by
  simp only[runD,RunD.mk.injEq] at hr
  obtain⟨rfl,rfl,rfl,rfl,rfl⟩:=hr
  exact⟨h,ho⟩
 |o::l,acc,tr0,tr',fr,fr',ob,ob',obl,rest,hmem,hr,ho,h=>by
  have stop:(⟨acc,tr0,fr,ob,o::l⟩:RunD)=⟨obl,tr',fr',ob',rest⟩→XD E ops Q k tr0 (o::l) ⟨fr,ob,nx,nt,md⟩∧∀p∈acc,p:=by
   intro hr
   simp only[RunD.mk.injEq] at hr
   obtain⟨rfl,rfl,rfl,rfl,rfl⟩:=hr
   exact⟨h,ho⟩
  have go:∀{ob1:List Prop} {eff:Eff} {fr1:Nat→AV} {obj1:Nat→Option Ob},stepF T ops.toList ⟨fr,ob,nx,nt,md⟩ o=some (ob1,eff)→(ST.app ⟨fr,ob,nx,nt,md⟩ o.dst eff)=⟨fr1,obj1,nx,nt,md⟩→
    (match ob1 with
     |[]=>runD T ops.toList nx nt md acc (tr0++[(eff.toM,fpF ops.toList ⟨fr,ob,nx,nt,md⟩ o)]) fr1 obj1 l
     |p::ps=>runD T ops.toList nx nt md (pushR (p::ps) acc) (tr0++[(eff.toM,fpF ops.toList ⟨fr,ob,nx,nt,md⟩ o)]) fr1 obj1 l)=⟨obl,tr',fr',ob',rest⟩→XD E ops Q k tr0 (o::l) ⟨fr,ob,nx,nt,md⟩∧∀p∈acc,p:=by
   intro ob1 eff fr1 obj1 hs he hr
   have fin:XD E ops Q k (tr0++[(eff.toM,fpF ops.toList ⟨fr,ob,nx,nt,md⟩ o)]) l ⟨fr1,obj1,nx,nt,md⟩→(∀p∈ob1,p)→XD E ops Q k tr0 (o::l) ⟨fr,ob,nx,nt,md⟩:=fun hx hp=>
    XD.step (Local.step hT hs hp hd (hmem o (by simp))) (he▸hx)
   cases ob1 with
   |nil=>
    obtain⟨h1,h2⟩:=XD.run hT hd (fun o' ho'=>hmem o' (by simp[ho'])) hr ho h
    exact⟨fin h1 (fun p hp=>by cases hp),h2⟩
   |cons q qs=>
    obtain⟨h1,h2⟩:=XD.run hT hd (fun o' ho'=>hmem o' (by simp[ho'])) hr ho h
    exact⟨fin h1 (fun p hp=>h2 p (mem_pushR.2 (.inl hp))),fun p hp=>h2 p (mem_pushR.2 (.inr hp))⟩
  simp only[runD,stepN_eq] at hr
  split at hr
  ·rename_i ob1 av eo hs
   split at hr
   ·rename_i x d hx hd1
    have:=frc_eq hx
    subst this
    exact go hs (by rw[hd1];rfl) hr
   ·rename_i x k o' d hx hd1
    have:=frc_eq hx
    subst this
    split at hr
    ·rename_i k2 o2 ho2
     obtain⟨h1,h2⟩:=frcKO_eq ho2
     subst h1 h2
     exact go hs (by rw[hd1];rfl) hr
    ·exact stop hr
   ·rename_i x k o' hx hd1
    have:=frc_eq hx
    subst this
    split at hr
    ·rename_i k2 o2 ho2
     obtain⟨h1,h2⟩:=frcKO_eq ho2
     subst h1 h2
     exact go hs (by rw[hd1];rfl) hr
    ·exact stop hr
   ·exact stop hr
  ·exact stop hr
theorem runD_runF {nx nt:Nat} {md:Nat→Bool} {l:List Oper}:∀(rest:List Oper) (acc:List Prop) (tr:List (EffM×(List Nat×List Nat))) (fr:Nat→AV) (ob:Nat→Option Ob),
  runD T l nx nt md acc tr fr ob rest=⟨(runF T l nx nt md acc fr ob rest).obl,(runD T l nx nt md acc tr fr ob rest).tr,(runF T l nx nt md acc fr ob rest).fr,(runF T l nx nt md acc fr ob rest).ob,(runF T l nx nt md acc fr ob rest).rest⟩
 |[],acc,tr,fr,ob=>rfl
 |o::rest,acc,tr,fr,ob=>by
  simp only[runD,runF]
  cases hs:stepN T l fr ob nx nt md o with
  |none=>rfl
  |some r=>
   obtain⟨obl,av,eo⟩:=r
   simp only
   cases hf:frc av with
   |none=>rfl
   |some x=>
    cases eo with
    |none=>
     cases hd:o.dst with
     |none=>rfl
     |some d=>cases obl<;>exact runD_runF rest _ _ _ _
    |some ko=>
     obtain⟨k,o'⟩:=ko
     cases hd:o.dst with
     |none=>
      simp only
      cases hk:frcKO k o' with
      |none=>rfl
      |some k2=>cases obl<;>exact runD_runF rest _ _ _ _
     |some d=>
      simp only
      cases hk:frcKO k o' with
      |none=>rfl
      |some k2=>cases obl<;>exact runD_runF rest _ _ _ _
theorem XK.rgnD (hT:TOk E.P T) (hm:E.P.follows .mixedOrders=true) {id:Nat} {fr fr':Nat→AV} {ob ob':Nat→Option Ob} {nx nt:Nat} {md:Nat→Bool} {obl obl':List Prop} (hd:ops.toList.all (dstOk ⟨fun _=>.junk,fun _=>none,nx,nt,md⟩)=true)
  (hr:runF T ops.toList nx nt md [] fr ob ops.toList=⟨obl,fr',ob',[]⟩) (hf:frcR obl []=some obl') (hc:checkD [] [] ops.toList (runD T ops.toList nx nt md [] [] fr ob ops.toList).tr=true) (ho:AllP obl') (h:XK E k Q ⟨fr',ob',nx+nt,nt,md⟩):
  XK E (.code (.region id ops true)::k) Q ⟨fr,ob,nx,nt,md⟩:=
 XK.drawn hm (XD.run hT hd (fun _ h=>h) ((runD_runF _ _ _ _ _).trans (by rw[hr])) (AllP.memR hf ho) (XD.nil hc h)).1
theorem XD.go (hT:TOk E.P T) {l rest:List Oper} {fr fr':Nat→AV} {ob ob':Nat→Option Ob} {nx nt:Nat} {md:Nat→Bool} {obl obl':List Prop} (hd:ops.toList.all (dstOk ⟨fun _=>.junk,fun _=>none,nx,nt,md⟩)=true)
  (hm:ops.toList.drop (ops.toList.length-l.length)=l) (hr:runF T ops.toList nx nt md [] fr ob l=⟨obl,fr',ob',rest⟩) (hf:frcR obl []=some obl') (ho:AllP obl') (h:XD E ops Q k (runD T ops.toList nx nt md [] tr0 fr ob l).tr rest ⟨fr',ob',nx,nt,md⟩):XD E ops Q k tr0 l ⟨fr,ob,nx,nt,md⟩:=
 (XD.run hT hd (fun _ h=>List.mem_of_mem_drop (hm▸h)) ((runD_runF _ _ _ _ _).trans (by rw[hr])) (AllP.memR hf ho) h).1
end
end Go.Eng
end
