import Derived.Test.YtgpkkllbejgmlaaGreatDoorZz7
set_option linter.unusedSimpArgs false
set_option linter.unusedVariables false
section
namespace Go.Eng
mutual
def AV.keys:AV→List Nat
 |.agg l=>AV.keysL l
 |.tup l=>AV.keysL l
 |.fn _ l l'=>AV.keysL l++AV.keysL l'
 |.ptr k _=>[k]
 |.mp k=>[k]
 |.vptr k _ _ _ _=>[k]
 |.vec k _=>[k]
 |.gd _ a=>AV.keys a
 |.junk=>[]
 |.c _=>[]
 |.rptr _=>[]
 |.rs _ _ _=>[]
def AV.keysL:List AV→List Nat
 |[]=>[]
 |a::l=>AV.keys a++AV.keysL l
end
section
variable {ob ob':Nat→Option Ob} {T:TE}
theorem live_congr {x:AV} (h:∀k∈x.keys,ob' k=ob k):live ob' x=live ob x:=by
 cases x<;>simp only[live]
 ·rename_i k s sz i off;rw[h k (by simp[AV.keys])]
 ·rename_i k s;rw[h k (by simp[AV.keys])]
theorem oneAV_congr {x:AV} (h:∀k∈x.keys,ob' k=ob k):oneAV ob' x=oneAV ob x:=by
 have hl:=live_congr h
 cases x<;>simp only[oneAV]<;>exact hl
theorem avCells_congr {x:AV} (h:∀k∈x.keys,ob' k=ob k):avCells ob' x=avCells ob x:=by
 have hl:=live_congr h
 cases x with
 |c v=>cases v<;>simp[avCells,live]
 |_=>simp_all [avCells]
theorem avCells_keys {x:AV} {l:List AV} (h:avCells ob x=some l):∀y∈l,∀k∈y.keys,k∈x.keys:=by
 have lst:∀{l:List AV} {y:AV} {k:Nat},y∈l→k∈y.keys→k∈AV.keysL l:=by
  intro l
  induction l with
  |nil=>intro y k hy;cases hy
  |cons a l ih=>
   intro y k hy hk
   simp only[AV.keysL,List.mem_append]
   rcases List.mem_cons.1 hy with rfl|hy
   ·exact .inl hk
   ·exact .inr (ih hy hk)
 intro y hy k hk
 cases x with
 |agg l'=>
  simp only[avCells,Option.some.injEq] at h
  subst h
  simp only[AV.keys]
  exact lst hy hk
 |c v=>
  cases v<;>simp[avCells,live] at h<;>(subst h;simp at hy;subst hy;exact hk)
 |junk=>simp[avCells] at h
 |tup l'=>simp[avCells] at h
 |gd g a=>simp[avCells] at h
 |ptr k off=>simp[avCells,live] at h;subst h;simp at hy;subst hy;exact hk
 |mp k=>simp[avCells,live] at h;subst h;simp at hy;subst hy;exact hk
 |rptr l'=>simp[avCells,live] at h;subst h;simp at hy;subst hy;exact hk
 |rs sz n f=>simp[avCells,live] at h;subst h;simp at hy;subst hy;exact hk
 |fn f l1 l2=>simp[avCells,live] at h;subst h;simp at hy;subst hy;exact hk
 |vec k' s=>
  cases hb:live ob (.vec k' s) with
  |false=>simp[avCells,hb] at h
  |true=>simp[avCells,hb] at h;subst h;simp at hy;subst hy;exact hk
 |vptr k' s sz i off=>
  cases hb:live ob (.vptr k' s sz i off) with
  |false=>simp[avCells,hb] at h
  |true=>simp[avCells,hb] at h;subst h;simp at hy;subst hy;exact hk
theorem loadF_congr {t:TypeId} {x:AV} (h:∀k∈x.keys,ob' k=ob k):loadF T ob' t x=loadF T ob t x:=by
 cases x<;>simp only[loadF]
 ·rename_i k off;rw[h k (by simp[AV.keys])]
 ·rename_i k s sz i off;rw[h k (by simp[AV.keys])]
theorem fieldF_congr {s:TypeId} {f:Nat} {x:AV} (h:∀k∈x.keys,ob' k=ob k):fieldF T ob' s f x=fieldF T ob s f x:=by
 have hl:=live_congr h
 cases x<;>simp only[fieldF]<;>simp only[hl]
theorem indexF_congr {t:TypeId} {x y:AV} (h:∀k∈x.keys,ob' k=ob k):indexF T ob' t x y=indexF T ob t x y:=by
 cases y with
 |c v=>
  cases v with
  |int ik i=>
   cases x with
   |vec k s=>simp only[indexF,h k (by simp[AV.keys])]
   |vptr k s sz i off=>simp only[indexF,h k (by simp[AV.keys])]
   |_=>rfl
  |_=>rfl
 |_=>rfl
theorem lenF_congr {t:TypeId} {x:AV} (h:∀k∈x.keys,ob' k=ob k):lenF T ob' t x=lenF T ob t x:=by
 cases x with
 |vec k s=>simp only[lenF];rw[h k (by simp[AV.keys])]
 |c v=>cases v<;>simp only[lenF]
 |_=>simp only[lenF]
theorem nilF_congr {x:AV} (h:∀k∈x.keys,ob' k=ob k):nilF ob' x=nilF ob x:=by
 have hl:=live_congr h
 cases x with
 |fn f l l'=>cases f<;>simp only[nilF]
 |_=>simp only[nilF]<;>simp only[hl]
theorem pcells_congr:∀{l:List (Nat×AV)},(∀p∈l,∀k∈p.2.keys,ob' k=ob k)→pcells ob' l=pcells ob l
 |[],_=>rfl
 |(i,x)::l,h=>by
  simp only[pcells]
  rw[avCells_congr (h (i,x) (by simp)),pcells_congr (fun p hp=>h p (by simp[hp]))]
theorem srcF_congr {x:AV} (h:∀k∈x.keys,ob' k=ob k):srcF ob' x=srcF ob x:=by
 cases x<;>simp only[srcF]
 rename_i k s;rw[h k (by simp[AV.keys])]
theorem appendF_congr {k t:Nat} {s x:AV} (hk:ob' k=ob k) (hs:∀k∈s.keys,ob' k=ob k) (hx:∀k∈x.keys,ob' k=ob k):appendF T ob' k t s x=appendF T ob k t s x:=by
 cases s with
 |vec k1 s1=>simp only[appendF,srcF_congr hx,hs k1 (by simp[AV.keys])]
 |c v=>
  cases v with
  |slice a l cc=>
   cases a with
   |some _=>simp only[appendF,srcF_congr hx]
   |none=>
    match l,cc with
    |0,0=>simp only[appendF,srcF_congr hx,hk]
    |0,c+1=>simp only[appendF,srcF_congr hx]
    |l+1,c=>simp only[appendF,srcF_congr hx]
  |_=>simp only[appendF,srcF_congr hx]
 |_=>simp only[appendF,srcF_congr hx]
theorem all_congr {α:Type} {f g:α→Bool}:∀{l:List α},(∀z∈l,f z=g z)→l.all f=l.all g
 |[],_=>rfl
 |a::l,h=>by simp only[List.all_cons];rw[h a (by simp),all_congr (fun z hz=>h z (by simp[hz]))]
theorem storeF_congr {t:TypeId} {x y:AV} (hx:∀k∈x.keys,ob' k=ob k) (hy:∀k∈y.keys,ob' k=ob k):storeF T ob' t x y=storeF T ob t x y:=by
 unfold storeF
 rw[avCells_congr hy]
 cases T.find t with
 |none=>rfl
 |some ti=>
  cases hl:avCells ob y with
  |none=>rfl
  |some l=>
   have hall:l.all (oneAV ob')=l.all (oneAV ob):=all_congr fun z hz=>oneAV_congr fun k hk=>hy k (avCells_keys hl z hz k hk)
   cases x with
   |ptr k off=>simp only[hall,hx k (by simp[AV.keys])]
   |vptr k s sz i off=>simp only[hall,hx k (by simp[AV.keys])]
   |_=>simp only[hall]
theorem valF_congr {wr:Bool} {e e':Operand→AV} {op:Op} (he:∀x∈op.operands,e' x=e x) (hk:∀x∈op.operands,∀k∈(e x).keys,ob' k=ob k):valF T ob' wr e' op=valF T ob wr e op:=by
 cases op<;>simp only[Op.operands] at he hk<;>try rfl
 case move x=>simp only[valF];rw[he x (by simp)]
 case assign x=>simp only[valF];rw[he x (by simp)]
 case load t x=>simp only[valF];rw[he x (by simp),loadF_congr (hk x (by simp))]
 case nilCheck x=>simp only[valF];rw[he x (by simp),nilF_congr (hk x (by simp))]
 case binOp b t x y u=>simp only[valF];rw[he x (by simp),he y (by simp)]
 case unOp u t x=>simp only[valF];rw[he x (by simp)]
 case convert s d x=>simp only[valF];rw[he x (by simp)]
 case fieldAddr s x f=>simp only[valF];rw[he x (by simp),fieldF_congr (hk x (by simp))]
 case field s x f=>simp only[valF];rw[he x (by simp)]
 case indexAddr t x i=>simp only[valF];rw[he x (by simp),he i (by simp),indexF_congr (hk x (by simp))]
 case index t x i=>simp only[valF];rw[he x (by simp),he i (by simp)]
 case extract t i=>simp only[valF];rw[he t (by simp)]
 case slice t x lo hi mx=>
  cases mx with
  |some m=>rfl
  |none=>
   simp only[valF]
   rw[he x (by simp)]
   congr 1
   ·cases lo with
    |none=>rfl
    |some y=>simp only[Option.map_some];rw[he y (by simp)]
   ·cases hi with
    |none=>rfl
    |some y=>simp only[Option.map_some];rw[he y (by simp)]
 case makeFunc fn first cap=>
  simp only[valF]
  congr 3
  ·exact List.map_congr_left fun x hx=>he x (by simp;exact .inl (by simpa using hx))
  ·exact List.map_congr_left fun x hx=>he x (by simp;exact .inr (by simpa using hx))
 case build t parts=>
  simp only[valF]
  have h1:(parts.toList.map fun p=>(p.1,e' p.2))=(parts.toList.map fun p=>(p.1,e p.2)):=List.map_congr_left fun p hp=>by rw[he p.2 (by simp;exact⟨p.1,by simpa using hp⟩)]
  rw[h1]
  unfold buildF
  rw[pcells_congr (fun p hp k hkk=>by
   simp only[List.mem_map] at hp
   obtain⟨q,hq,rfl⟩:=hp
   exact hk q.2 (by simp;exact⟨q.1,by simpa using hq⟩) k hkk)]
 case call c=>
  obtain⟨callee,args,tys⟩:=c
  simp only[Call.operands] at he hk
  have hm:args.toList.map e'=args.toList.map e:=List.map_congr_left fun x hx=>he x (by simp;exact .inr (by simpa using hx))
  simp only[valF]
  split
  ·rename_i x t h2 h3
   have hx:x∈args:=by
    have:x∈args.toList:=by rw[h2];simp
    simpa using this
   rw[he x (by simp[hx]),lenF_congr (hk x (by simp[hx]))]
  ·rw[hm]
  ·rw[hm]
  ·rfl
theorem copyF_congr {t:Nat} {s x:AV} (hs:∀k∈s.keys,ob' k=ob k) (hx:∀k∈x.keys,ob' k=ob k):copyF T ob' t s x=copyF T ob t s x:=by
 cases s with
 |vec k s1=>show copyG T t k s1 (ob' k) (srcF ob' x)=copyG T t k s1 (ob k) (srcF ob x);rw[srcF_congr hx,hs k (by simp[AV.keys])]
 |_=>rfl
theorem lookF_congr {t:Nat} {ok:Bool} {x y:AV} (h:∀k∈x.keys,ob' k=ob k):lookF T ob' t ok x y=lookF T ob t ok x y:=by
 cases x with
 |mp k=>simp only[lookF];rw[h k (by simp[AV.keys])]
 |_=>rfl
theorem mputF_congr {t:Nat} {x y z:AV} (h:∀k∈x.keys,ob' k=ob k):mputF T ob' t x y z=mputF T ob t x y z:=by
 cases x with
 |mp k=>simp only[mputF];rw[h k (by simp[AV.keys])]
 |_=>rfl
theorem effF_congr {st st':ST} {d:Nat} {e e':Operand→AV} {op:Op} (hnx:st'.nx=st.nx) (hmd:st'.md=st.md) (he:∀x∈op.operands,e' x=e x) (hk:∀x∈op.operands,∀k∈(e x).keys,st'.ob k=st.ob k) (hd:st'.ob (st.nx+d)=st.ob (st.nx+d)):
  effF T st' d e' op=effF T st d e op:=by
 have hv:=valF_congr (T:=T) (wr:=st.md d) he hk
 unfold effF effG
 simp only[hnx,hmd,hd]
 cases op<;>simp only[Op.operands] at he hk<;>try (simp only[hv];done)
 case box t x=>simp only;rw[he x (by simp),avCells_congr (hk x (by simp))]
 case buildSlice t n parts=>
  have h1:(parts.toList.map fun p=>(p.1,e' p.2))=(parts.toList.map fun p=>(p.1,e p.2)):=List.map_congr_left fun p hp=>by rw[he p.2 (by simp;exact⟨p.1,by simpa using hp⟩)]
  simp only
  rw[h1]
  have:bsCells T st'.ob t n (parts.toList.map fun p=>(p.1,e p.2))=bsCells T st.ob t n (parts.toList.map fun p=>(p.1,e p.2)):=by
   unfold bsCells
   rw[pcells_congr (fun p hp k hkk=>by
    simp only[List.mem_map] at hp
    obtain⟨q,hq,rfl⟩:=hp
    exact hk q.2 (by simp;exact⟨q.1,by simpa using hq⟩) k hkk)]
  rw[this]
 case makeSlice t x y=>simp only;rw[he x (by simp),he y (by simp)]
 case store t x y=>simp only;rw[he x (by simp),he y (by simp),storeF_congr (hk x (by simp)) (hk y (by simp))]
 case makeMap t r=>cases r<;>simp only[hv]
 case lookup t x i ok=>simp only;rw[he x (by simp),he i (by simp),lookF_congr (hk x (by simp))]
 case mapUpdate t m i x=>simp only;rw[he m (by simp),he i (by simp),he x (by simp),mputF_congr (hk m (by simp))]
 case insert t m i x=>simp only;rw[he m (by simp),he i (by simp),he x (by simp),mputF_congr (hk m (by simp))]
 case call c=>
  obtain⟨callee,args,tys⟩:=c
  simp only[Call.operands] at he hk
  simp only
  rw[hv]
  split
  ·rename_i s x t t' h2 h3
   have hs:s∈args:=by
    have:s∈args.toList:=by rw[h2];simp
    simpa using this
   have hx:x∈args:=by
    have:x∈args.toList:=by rw[h2];simp
    simpa using this
   rw[he s (by simp[hs]),he x (by simp[hx]),appendF_congr hd (hk s (by simp[hs])) (hk x (by simp[hx]))]
  ·rename_i s x t t' h2 h3
   have hs:s∈args:=by
    have:s∈args.toList:=by rw[h2];simp
    simpa using this
   have hx:x∈args:=by
    have:x∈args.toList:=by rw[h2];simp
    simpa using this
   rw[he s (by simp[hs]),he x (by simp[hx]),copyF_congr (hk s (by simp[hs])) (hk x (by simp[hx]))]
  ·rfl
end
def slotOf:Operand→List Nat
 |.tmp t=>[t]
 |_=>[]
def fpF (l:List Oper) (st:ST) (o:Oper):List Nat×List Nat:=
 (o.op.operands.toList.flatMap slotOf++(match o.guard with
  |some (j,_)=>(match l[j]? with
   |some o'=>o'.dst.toList
   |none=>[])
  |none=>[]),
  o.op.operands.toList.flatMap (fun x=>(st.ev x).keys)++[st.nx+o.dst.getD 0])
def agree (fp:List Nat×List Nat) (st st':ST):Prop:=st'.nx=st.nx∧st'.nt=st.nt∧st'.md=st.md∧(∀r∈fp.1,st'.fr r=st.fr r)∧∀k∈fp.2,st'.ob k=st.ob k
theorem strip_keys (x:AV):(strip x).keys=x.keys:=by cases x<;>simp[strip,AV.keys]
theorem ev_agree {l:List Oper} {st st':ST} {o:Oper} (h:agree (fpF l st o) st st'):∀x∈o.op.operands,st'.ev x=st.ev x:=by
 intro x hx
 cases x with
 |tmp t=>exact h.2.2.2.1 t (List.mem_append_left _ (List.mem_flatMap.2 ⟨.tmp t,by simpa using hx,by simp[slotOf]⟩))
 |_=>rfl
theorem stepF_congr {T:TE} {l:List Oper} {st st':ST} {o:Oper} (h:agree (fpF l st o) st st'):stepF T l st' o=stepF T l st o:=by
 have hev:=ev_agree h
 obtain⟨h1,h2,h3,h4,h5⟩:=h
 have heff:effG T st' (o.dst.getD 0) (st'.nx+o.dst.getD 0) (fun x=>strip (st'.ev x)) o.op=effG T st (o.dst.getD 0) (st.nx+o.dst.getD 0) (fun x=>strip (st.ev x)) o.op:=
  effF_congr h1 h3 (fun x hx=>by simp only[hev x hx]) (fun x hx k hk=>h5 k (List.mem_append_left _ (List.mem_flatMap.2 ⟨x,by simpa using hx,by rw[strip_keys] at hk;exact hk⟩))) (h5 _ (List.mem_append_right _ (by simp)))
 have hob:∀gc,o.op.operands.toList.flatMap (fun x=>oblG gc (st'.ev x))=o.op.operands.toList.flatMap (fun x=>oblG gc (st.ev x)):=fun gc=>by
  simp only[List.flatMap]
  congr 1
  exact List.map_congr_left fun x hx=>by simp only[hev x (by simpa using hx)]
 have hpick:∀gc c x y,o.op=.pick c x y→pickF st' gc c x y=pickF st gc c x y:=fun gc c x y hop=>by
  have e1:=hev c (by rw[hop];simp[Op.operands])
  have e2:=hev x (by rw[hop];simp[Op.operands])
  have e3:=hev y (by rw[hop];simp[Op.operands])
  simp only[pickF,e1,e2,e3]
 have hgv:∀j pol,o.guard=some (j,pol)→gval st' l j pol=gval st l j pol:=fun j pol hg=>by
  unfold gval
  cases hl:l[j]? with
  |none=>rfl
  |some o'=>
   cases hd:o'.dst with
   |none=>simp only[hd]
   |some d=>
    simp only[hd]
    rw[h4 d (List.mem_append_right _ (by simp[hg,hl,hd]))]
 unfold stepF stepG
 cases hg:o.guard with
 |none=>
  simp only
  split
  ·rename_i c x y hop
   rw[hpick none c x y hop]
  ·rw[heff,hob]
 |some jp=>
  obtain⟨j,pol⟩:=jp
  simp only
  rw[hgv j pol hg]
  split
  ·split
   ·rename_i c x y hop
    rw[hpick _ c x y hop]
   ·rw[heff,hob]
  ·rfl
section
variable {E:Env} {T:TE} {st:ST}
def Local (E:Env) (ops:Array Oper) (o:Oper) (st:ST) (eff:Eff) (fp:List Nat×List Nat):Prop:=∀s',agree fp st s'→StepTo E ops o s' (s'.app o.dst eff)
theorem Local.step (hT:TOk E.P T) {ops:Array Oper} {o:Oper} {obl:List Prop} {eff:Eff} (hs:stepF T ops.toList st o=some (obl,eff)) (ho:∀p∈obl,p) (hd:ops.toList.all (dstOk st)=true) (hm:o∈ops.toList):Local E ops o st eff (fpF ops.toList st o):=by
 intro s' ha
 have hnt:=ha.2.1
 have dk:∀o'∈ops.toList,dstOk s' o'=true:=fun o' ho'=>by
  have:=List.all_eq_true.1 hd o' ho'
  simpa[dstOk,hnt] using this
 exact stepF_ok hT ((stepF_congr ha).trans hs) ho (dk o hm) (fun j pol o' d _ hj hdst=>dstOk_lt (dk o' (Array.mem_toList_iff.2 (Array.mem_of_getElem? hj))) d hdst)
mutual
theorem lend_congr1 {ob ob':Nat→Option Ob}:∀{a:AV},(∀k∈a.keys,ob' k=ob k)→a.lend ob'=a.lend ob
 |.agg l,h=>by simp only[AV.lend];rw[lend_congr (l:=l) (by simpa[AV.keys] using h)]
 |.tup l,h=>by simp only[AV.lend];rw[lend_congr (l:=l) (by simpa[AV.keys] using h)]
 |.fn f l l',h=>by
  simp only[AV.keys,List.mem_append] at h
  simp only[AV.lend]
  rw[lend_congr (l:=l) (fun k hk=>h k (.inl hk)),lend_congr (l:=l') (fun k hk=>h k (.inr hk))]
 |.ptr k off,h=>by simp only[AV.lend,h k (by simp[AV.keys])]
 |.vec k s,h=>by simp only[AV.lend,h k (by simp[AV.keys])]
 |.vptr k s sz i off,_=>rfl
 |.mp k,_=>rfl
 |.gd g a,_=>rfl
 |.junk,_=>rfl
 |.c v,_=>rfl
 |.rptr l,_=>rfl
 |.rs sz n f,_=>rfl
theorem lend_congr {ob ob':Nat→Option Ob}:∀{l:List AV},(∀k∈AV.keysL l,ob' k=ob k)→AV.lendL ob' l=AV.lendL ob l
 |[],_=>rfl
 |a::l,h=>by
  simp only[AV.keysL,List.mem_append] at h
  simp only[AV.lendL]
  rw[lend_congr1 (a:=a) (fun k hk=>h k (.inl hk)),lend_congr (l:=l) (fun k hk=>h k (.inr hk))]
end
end
end Go.Eng
end
