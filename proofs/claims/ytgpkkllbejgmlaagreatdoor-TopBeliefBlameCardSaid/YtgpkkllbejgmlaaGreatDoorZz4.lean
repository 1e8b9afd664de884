import Derived.Test.YtgpkkllbejgmlaaGreatDoorZz3
import Derived.Maps.AppendAt
set_option linter.unusedSimpArgs false
set_option linter.unusedVariables false
section
namespace Go.Eng
def ST.ev (st:ST):Operand→AV
 |.tmp t=>st.fr t
 |.const v=>.c v
 |.global g=>match glF GT g with
  |some l=>.rptr (l.map .c)
  |none=>.c (.pointer (some ⟨g,0,none⟩))
 |.func f=>.fn (.func f) [] []
theorem SatR.ev {E:Env} {st:ST} {a:Act} {w:World} {ρ:Rho} (h:SatR E st a w ρ) (x:Operand):R w (E.good w ρ) ρ (st.ev x) (a.eval x):=by
 cases x with
 |tmp t=>exact h.fr t
 |const v=>exact .c
 |global g=>
  show R w (E.good w ρ) ρ (match glF GT g with|some l=>.rptr (l.map .c)|none=>.c (.pointer (some ⟨g,0,none⟩))) (.pointer (some ⟨g,0,none⟩))
  split
  ·rename_i l hl;exact h.gl.r hl
  ·exact .c
 |func f=>exact .fn rfl (fun i a h=>by simp at h) rfl (fun i a h=>by simp at h)
def strip:AV→AV
 |.gd _ a=>a
 |a=>a
def impG (gc:Option Bool) (p:Prop):Prop:=match gc with
 |none=>p
 |some g=>g=true→p
def oblG (gc:Option Bool):AV→List Prop
 |.gd g _=>[impG gc (g=true)]
 |_=>[]
structure Eff where
 av:AV
 ob:Option (Nat×Ob)
def ST.app (st:ST) (dst:Option Nat) (e:Eff):ST:=
 {st with fr:=(match dst with|some d=>upd st.fr d e.av|none=>st.fr),ob:=(match e.ob with|some (k,o)=>upd st.ob k (some o)|none=>st.ob)}
def pcells (ob:Nat→Option Ob):List (Nat×AV)→Option (List (Nat×List AV))
 |[]=>some []
 |(i,x)::l=>match avCells ob x,pcells ob l with
  |some c,some r=>some ((i,c)::r)
  |_,_=>none
def buildF (T:TE) (ob:Nat→Option Ob) (t:TypeId) (parts:List (Nat×AV)):Option (List Prop×AV):=
 match T.find t,pcells ob parts with
 |some ti,some ps=>match ti.kind with
  |.struct pl _=>match fillF (fun i=>pl[i]?) (ti.zero.map .c) ps with
   |some l=>some ([],.agg l)
   |none=>none
  |.array _ e=>match T.find e with
   |some te=>match fillF (fun i=>some (i*te.size,te.size)) (ti.zero.map .c) ps with
    |some l=>some ([],.agg l)
    |none=>none
   |none=>none
  |_=>none
 |_,_=>none
def nilF (ob:Nat→Option Ob):AV→Option (List Prop×AV)
 |.ptr k o=>some ([],.ptr k o)
 |.rptr l=>some ([],.rptr l)
 |.vptr k s sz i off=>bif live ob (.vptr k s sz i off) then some ([],.vptr k s sz i off) else none
 |.fn (.func f) l c=>some ([],.fn (.func f) l c)
 |_=>none
def valF (T:TE) (ob:Nat→Option Ob) (wr:Bool) (e:Operand→AV) (op:Op):Option (List Prop×AV):=
 match op with
 |.move x=>some ([],e x)
 |.assign x=>some ([],e x)
 |.load t x=>loadF T ob t (e x)
 |.nilCheck x=>nilF ob (e x)
 |.binOp b t x y _=>binF T wr b t (e x) (e y)
 |.unOp u _ x=>unF wr u (e x)
 |.convert s d x=>convF T wr s d (e x)
 |.fieldAddr s x f=>fieldF T ob s f (e x)
 |.field s x f=>fieldVF T s f (e x)
 |.indexAddr t x i=>indexF T ob t (e x) (e i)
 |.index t x i=>indexVF T t (e x) (e i)
 |.extract t i=>match e t with
  |.tup l=>match l[i]? with
   |some x=>some ([],x)
   |none=>none
  |_=>none
 |.slice t x lo hi none=>sliceF T t (lo.map e) (hi.map e) (e x)
 |.makeFunc fn first cap=>some ([],.fn fn (first.toList.map e) (cap.toList.map e))
 |.build t parts=>buildF T ob t (parts.toList.map fun p=>(p.1,e p.2))
 |.call c=>match c.callee,c.args.toList,c.argTypes.toList with
  |.builtin .len,[x],[t]=>lenF T ob t (e x)
  |.builtin .max,xs,_=>match extremeF true (xs.map e) with
   |some x=>some ([],x)
   |none=>none
  |.builtin .min,xs,_=>match extremeF false (xs.map e) with
   |some x=>some ([],x)
   |none=>none
  |_,_,_=>none
 |_=>none
section
variable {E:Env} {st:ST} {a:Act} {w:World} {ρ:Rho} {T:TE}
theorem pcells_ok (h:SatR E st a w ρ):∀{parts:List (Nat×AV)} {vparts:List (Nat×Value)} {ps:List (Nat×List AV)},pcells st.ob parts=some ps→vparts.length=parts.length→
  (∀(j i:Nat) (x:AV),parts[j]?=some (i,x)→∃v,vparts[j]?=some (i,v)∧R w (E.good w ρ) ρ x v)→
  vparts.length=ps.length∧∀(j i:Nat) (l:List AV),ps[j]?=some (i,l)→∃v,vparts[j]?=some (i,v)∧v.cells.size=l.length∧∀k y,l[k]?=some y→R w (E.good w ρ) ρ y (v.cells.getD k undef)
 |[],vparts,ps,hp,hl,_=>by
  simp only[pcells,Option.some.injEq] at hp
  subst hp
  exact⟨hl,fun j i l hj=>by simp at hj⟩
 |(i,x)::parts,[],ps,hp,hl,_=>by simp at hl
 |(i,x)::parts,(i',v)::vparts,ps,hp,hl,hr=>by
  simp only[pcells] at hp
  split at hp
  ·rename_i c r hc hrr
   injection hp with hp
   subst hp
   obtain⟨v',hv',hrv⟩:=hr 0 i x rfl
   simp only[List.getElem?_cons_zero,Option.some.injEq,Prod.mk.injEq] at hv'
   obtain⟨rfl,rfl⟩:=hv'
   obtain⟨h1,h2⟩:=pcells_ok h hrr (by simpa using hl) (fun j i x hj=>by simpa using hr (j+1) i x (by simpa using hj))
   refine⟨by simpa using h1,fun j i l hj=>?_⟩
   cases j with
   |zero=>
    simp only[List.getElem?_cons_zero,Option.some.injEq,Prod.mk.injEq] at hj
    obtain⟨rfl,rfl⟩:=hj
    exact⟨_,by simp,h.cells hc hrv⟩
   |succ j=>simpa using h2 j i l (by simpa using hj)
  ·cases hp
theorem getD_map {α:Type} {f:α→Value} (l:Array α) (i:Nat) (x:α) (h:l[i]?=some x):(l.map f).getD i undef=f x:=by
 have:=Array.getElem?_eq_some_iff.1 h
 obtain⟨h1,h2⟩:=this
 simp[h1,h2]
theorem buildF_ok (hT:TOk E.P T) (h:SatR E st a w ρ) {t:TypeId} {parts:Array (Nat×Operand)} {e:Operand→AV} {obl:List Prop} {r:AV} (he:∀p∈parts,R w (E.good w ρ) ρ (e p.2) (a.eval p.2))
  (hb:buildF T st.ob t (parts.toList.map fun p=>(p.1,e p.2))=some (obl,r)):∃z,(Instr.build t (parts.map fun(i,x)=>(i,a.eval x))).run E.P w=.ok z w∧R w (E.good w ρ) ρ r z:=by
 unfold buildF at hb
 split at hb
 ·rename_i ti ps ht hps
  have hk:=hT t ti ht
  obtain⟨inf,z,hi,hsz,_,hz,hzc⟩:=hk.info
  have hvl:((parts.map fun(i,x)=>(i,a.eval x)).toList).length=(parts.toList.map fun p=>(p.1,e p.2)).length:=by simp
  obtain⟨h1,h2⟩:=pcells_ok h hps hvl (fun j i x hj=>by
   simp only[List.getElem?_map,Option.map_eq_some_iff] at hj
   obtain⟨p,hp,he1⟩:=hj
   simp only[Prod.mk.injEq] at he1
   obtain⟨rfl,rfl⟩:=he1
   refine⟨a.eval p.2,?_,he p (by simpa using List.mem_of_getElem? hp)⟩
   simp only[Array.toList_map,List.getElem?_map,hp];rfl)
  have hzero:(z.cells).size=(ti.zero.map AV.c).length∧∀i x,(ti.zero.map AV.c)[i]?=some x→R w (E.good w ρ) ρ x (z.cells.getD i undef):=by
   rw[hzc]
   refine⟨by simp,fun i x hx=>?_⟩
   simp only[List.getElem?_map,Option.map_eq_some_iff] at hx
   obtain⟨v,hv,rfl⟩:=hx
   have:(ti.zero.toArray).getD i undef=v:=by simp[hv]
   rw[this]
   exact .c
  split at hb
  ·rename_i pl ty hkd
   split at hb
   ·rename_i l hl
    simp only[Option.some.injEq,Prod.mk.injEq] at hb
    obtain⟨rfl,rfl⟩:=hb
    obtain⟨arr,h3,h4,h5⟩:=fillF_ok hl h1 h2 hzero.1 hzero.2
    have hkk:=hk.kind
    rw[hkd] at hkk
    obtain⟨fs,hu,hmap,_⟩:=hkk
    refine⟨.agg arr,run_build w t _ arr ?_,.agg h4 h5⟩
    unfold Program.built
    simp only[hi,hu,hz,hmap]
    simpa using h3
   ·cases hb
  ·rename_i n el hkd
   split at hb
   ·rename_i te hte
    split at hb
    ·rename_i l hl
     simp only[Option.some.injEq,Prod.mk.injEq] at hb
     obtain⟨rfl,rfl⟩:=hb
     obtain⟨arr,h3,h4,h5⟩:=fillF_ok hl h1 h2 hzero.1 hzero.2
     have hkk:=hk.kind
     rw[hkd] at hkk
     simp only[KindOk] at hkk
     obtain⟨inf2,z2,hi2,hsz2,_⟩:=(hT el te hte).info
     refine⟨.agg arr,run_build w t _ arr ?_,.agg h4 h5⟩
     unfold Program.built
     simp only[hi,hkk,hz,hi2,hsz2]
     simpa using h3
    ·cases hb
   ·cases hb
  ·cases hb
 ·cases hb
theorem nilF_ok (h:SatR E st a w ρ) {x r:AV} {v:Value} {obl:List Prop} (hl:nilF st.ob x=some (obl,r)) (hr:R w (E.good w ρ) ρ x v) (o:Oper) (y:Operand) (ho:o.op=.nilCheck y) (hy:a.eval y=v):
  ∃z,(execOp a.eval o).run E.P w=.ok (.value z) w∧R w (E.good w ρ) ρ r z:=by
 unfold nilF at hl
 split at hl
 ·simp only[Option.some.injEq,Prod.mk.injEq] at hl
  obtain⟨rfl,rfl⟩:=hl
  obtain⟨g,hk,rfl⟩:=hr.ptr_inv
  exact⟨_,by simp[execOp,ho,hy],hr⟩
 ·simp only[Option.some.injEq,Prod.mk.injEq] at hl
  obtain⟨rfl,rfl⟩:=hl
  obtain⟨ad,rfl,_⟩:=hr.rptr_inv
  exact⟨_,by simp[execOp,ho,hy],hr⟩
 ·rename_i k s sz i off
  cases hb:live st.ob (.vptr k s sz i off) with
  |false=>simp[hb] at hl
  |true=>
   simp only[hb,cond_true,Option.some.injEq,Prod.mk.injEq] at hl
   obtain⟨rfl,rfl⟩:=hl
   obtain⟨_,_,_,_,_,_,_,_,_,rfl,_⟩:=h.live_vptr hb hr
   exact⟨_,by simp[execOp,ho,hy],hr⟩
 ·simp only[Option.some.injEq,Prod.mk.injEq] at hl
  obtain⟨rfl,rfl⟩:=hl
  cases hr with
  |fn h1 h2 h3 h4=>exact⟨_,by simp[execOp,ho,hy],.fn h1 h2 h3 h4⟩
 ·cases hl
theorem valF_ok (hT:TOk E.P T) (h:SatR E st a w ρ) {o:Oper} {wr:Bool} {e:Operand→AV} {obl:List Prop} {r:AV} (he:∀x∈o.op.operands,R w (E.good w ρ) ρ (e x) (a.eval x))
  (hv:valF T st.ob wr e o.op=some (obl,r)) (ho:∀p∈obl,p):∃z,(execOp a.eval o).run E.P w=.ok (.value z) w∧R w (E.good w ρ) ρ r z:=by
 obtain⟨dst,op,type,pos,after,guard⟩:=o
 unfold valF at hv
 split at hv<;>rename_i hop<;>(try subst hop)<;>simp only[Op.operands] at he
 ·simp only[Option.some.injEq,Prod.mk.injEq] at hv
  obtain⟨rfl,rfl⟩:=hv
  exact⟨_,by simp[execOp],he _ (by simp)⟩
 ·simp only[Option.some.injEq,Prod.mk.injEq] at hv
  obtain⟨rfl,rfl⟩:=hv
  exact⟨_,by simp[execOp],he _ (by simp)⟩
 ·obtain⟨z,h1,h2⟩:=loadF_ok hT h hv (he _ (by simp))
  exact⟨z,by simp[execOp,h1],h2⟩
 ·exact nilF_ok h hv (he _ (by simp)) _ _ rfl rfl
 ·obtain⟨z,h1,h2⟩:=binF_ok hT _ _ hv ho (he _ (by simp)) (he _ (by simp))
  refine⟨z,?_,h2⟩
  show((do eqGuard _ _ _ _ _ _;binOp _ _ _ _:Sem Value) >>= fun x=>pure (Next.value x)).run E.P w=_
  rw[Sem.run_bind,h1];rfl
 ·obtain⟨z,h1,h2⟩:=unF_ok (P:=E.P) hv ho (he _ (by simp))
  exact⟨z,by simp[execOp,h1],h2⟩
 ·obtain⟨z,h1,h2⟩:=convF_ok hT hv ho (he _ (by simp))
  exact⟨z,by simp[execOp,h1],h2⟩
 ·obtain⟨z,h1,h2⟩:=fieldF_ok hT h hv (he _ (by simp))
  exact⟨z,by simp[execOp,h1],h2⟩
 ·obtain⟨z,h1,h2⟩:=fieldVF_ok hT hv (he _ (by simp))
  exact⟨z,by simp[execOp,h1],h2⟩
 ·obtain⟨z,h1,h2⟩:=indexF_ok hT h hv ho (he _ (by simp)) (he _ (by simp))
  exact⟨z,by simp[execOp,h1],h2⟩
 ·obtain⟨z,h1,h2⟩:=indexVF_ok hT hv ho (he _ (by simp)) (he _ (by simp))
  exact⟨z,by simp[execOp,h1],h2⟩
 ·rename_i x i
  split at hv
  ·rename_i l hx
   split at hv
   ·rename_i y hy
    simp only[Option.some.injEq,Prod.mk.injEq] at hv
    obtain⟨rfl,rfl⟩:=hv
    have:=he x (by simp)
    rw[hx] at this
    obtain⟨cs,hc,hs,hr⟩:=this.tup_inv
    have hi:i<cs.size:=by rw[hs];exact(List.getElem?_eq_some_iff.1 hy).1
    refine⟨cs.getD i undef,?_,hr i y hy⟩
    simp[execOp,hc,Instr.extract,hi]
   ·cases hv
  ·cases hv
 ·rename_i t x lo hi
  obtain⟨z,h1,h2⟩:=sliceF_ok (vlo:=lo.map a.eval) (vhi:=hi.map a.eval) hT h hv ho (he x (by simp))
   (fun y hy=>by
    cases lo with
    |none=>cases hy
    |some u=>injection hy with hy;subst hy;exact⟨_,rfl,he u (by simp)⟩)
   (fun hn=>by cases lo with
    |none=>rfl
    |some u=>cases hn)
   (fun y hy=>by
    cases hi with
    |none=>cases hy
    |some u=>injection hy with hy;subst hy;exact⟨_,rfl,he u (by simp)⟩)
   (fun hn=>by cases hi with
    |none=>rfl
    |some u=>cases hn)
  exact⟨z,by simp[execOp,h1],h2⟩
 ·rename_i fn first cap
  simp only[Option.some.injEq,Prod.mk.injEq] at hv
  obtain⟨rfl,rfl⟩:=hv
  refine⟨.func fn (first.map a.eval) (cap.map a.eval),by simp[execOp,Instr.makeFunc],.fn (by simp) (fun i x hx=>?_) (by simp) (fun i x hx=>?_)⟩
  ·simp only[List.getElem?_map,Option.map_eq_some_iff] at hx
   obtain⟨y,hy,rfl⟩:=hx
   rw[getD_map first i y (by simpa using hy)]
   exact he y (by simp;exact .inl (by simpa using List.mem_of_getElem? hy))
  ·simp only[List.getElem?_map,Option.map_eq_some_iff] at hx
   obtain⟨y,hy,rfl⟩:=hx
   rw[getD_map cap i y (by simpa using hy)]
   exact he y (by simp;exact .inr (by simpa using List.mem_of_getElem? hy))
 ·rename_i t parts
  obtain⟨z,h1,h2⟩:=buildF_ok hT h (fun p hp=>he p.2 (by simp;exact⟨p.1,by simpa using hp⟩)) hv
  exact⟨z,by simp[execOp,h1],h2⟩
 ·rename_i c
  obtain⟨callee,args,argTypes⟩:=c
  simp only[Call.operands] at he
  split at hv
  ·rename_i x t h1 h2 h3
   simp only at h1 h2 h3
   subst h1
   have hargs:args=#[x]:=by rw[←Array.toList_inj];simpa using h2
   have htys:argTypes=#[t]:=by rw[←Array.toList_inj];simpa using h3
   subst hargs htys
   obtain⟨z,h1,h2⟩:=lenF_ok (ty:=type) hT h hv (he x (by simp))
   exact⟨z,by simp[execOp,resolve,invoke,builtin,h1],h2⟩
  ·rename_i h1
   simp only at h1
   subst h1
   split at hv
   ·rename_i y hy
    simp only[Option.some.injEq,Prod.mk.injEq] at hv
    obtain⟨rfl,rfl⟩:=hv
    obtain⟨z,h4,h5⟩:=extremeF_ok (P:=E.P) (vs:=args.map a.eval) hy (by simp) (fun i x hx=>by
     simp only[List.getElem?_map,Option.map_eq_some_iff] at hx
     obtain⟨u,hu,rfl⟩:=hx
     rw[getD_map args i u (by simpa using hu)]
     exact he u (by simpa using List.mem_of_getElem? hu)) argTypes type
    simp only[if_true] at h4
    exact⟨z,by simp[execOp,resolve,invoke,builtin,h4],h5⟩
   ·cases hv
  ·rename_i h1
   simp only at h1
   subst h1
   split at hv
   ·rename_i y hy
    simp only[Option.some.injEq,Prod.mk.injEq] at hv
    obtain⟨rfl,rfl⟩:=hv
    obtain⟨z,h4,h5⟩:=extremeF_ok (P:=E.P) (vs:=args.map a.eval) hy (by simp) (fun i x hx=>by
     simp only[List.getElem?_map,Option.map_eq_some_iff] at hx
     obtain⟨u,hu,rfl⟩:=hx
     rw[getD_map args i u (by simpa using hu)]
     exact he u (by simpa using List.mem_of_getElem? hu)) argTypes type
    simp only[Bool.false_eq_true,if_false] at h4
    exact⟨z,by simp[execOp,resolve,invoke,builtin,h4],h5⟩
   ·cases hv
  ·cases hv
 ·cases hv
end
end Go.Eng
end
section
namespace Go.Eng
def rowOf (cs:List AV) (sz:Nat):Nat→List AV:=fun i=>(cs.drop (i*sz)).take sz
theorem rowOf_length {cs:List AV} {sz n i:Nat} (h:cs.length=n*sz) (hi:i<n):(rowOf cs sz i).length=sz:=by
 have:(i+1)*sz≤n*sz:=Nat.mul_le_mul_right sz hi
 rw[Nat.add_mul] at this
 simp only[rowOf,List.length_take,List.length_drop]
 omega
theorem rowOf_get {cs:List AV} {sz i j:Nat} {x:AV} (h:(rowOf cs sz i)[j]?=some x):j<sz∧cs[i*sz+j]?=some x:=by
 simp only[rowOf,List.getElem?_take] at h
 split at h
 ·rename_i hj
  exact⟨hj,by rwa[List.getElem?_drop] at h⟩
 ·cases h
def newObj (T:TE) (k:Nat) (t:TypeId) (cs:List AV):Option (AV×Ob):=
 match T.find t with
 |some ti=>match ti.kind with
  |.array n e=>match T.find e with
   |some te=>(match te.kind with
    |.array m e2=>(match T.find e2 with
     |some te2=>bif Nat.beq cs.length (n*m*te2.size)&&Nat.blt 0 (n*m)&&Nat.ble (n*m) 1000000&&AV.ksL (fun _=>false) cs then some (.vptr k 0 te2.size 0 0,.vec t te2.size 0 (n*m) (rowOf cs te2.size)) else none
     |none=>none)
    |_=>bif Nat.beq cs.length (n*te.size)&&Nat.blt 0 n&&Nat.ble n 1000000&&AV.ksL (fun _=>false) cs then some (.vptr k 0 te.size 0 0,.vec t te.size 0 n (rowOf cs te.size)) else none)
   |none=>none
  |_=>some (.ptr k 0,.cells t cs)
 |none=>none
def setRowF (f:Nat→List AV) (i off:Nat) (l:List AV):Nat→List AV:=fun j=>bif Nat.beq j i then setL (f i) off l else f j
def storeF (T:TE) (ob:Nat→Option Ob) (t:TypeId) (x y:AV):Option (Nat×Ob):=
 match T.find t,avCells ob y with
 |some ti,some l=>bif Nat.beq l.length ti.size&&l.all (oneAV ob) then
   (match x with
    |.ptr k off=>match ob k with
     |some (.cells t' cs)=>bif Nat.ble (off+l.length) cs.length then some (k,.cells t' (setL cs off l)) else none
     |_=>none
    |.vptr k s sz i off=>match ob k with
     |some (.vec e sz' s' n f)=>bif Nat.beq s s'&&Nat.beq sz sz'&&AV.ksL (fun _=>false) l then
       (match ti.kind with
        |.array m _=>bif Nat.beq i 0&&Nat.beq off 0&&Nat.beq m n&&Nat.beq l.length (n*sz) then some (k,.vec e sz' s' n (rowOf l sz)) else none
        |_=>bif Nat.ble (off+l.length) sz then some (k,.vec e sz' s' n (setRowF f i off l)) else none) else none
     |_=>none
    |_=>none)
   else none
 |_,_=>none
section
variable {E:Env} {st:ST} {a:Act} {w:World} {ρ:Rho} {T:TE}
theorem newObj_ok (h:SatR E st a w ρ) {k:Nat} {t:TypeId} {cs:List AV} {x:AV} {o:Ob} {arr:Array Value} (hn:newObj T k t cs=some (x,o)) (hk:st.ob k=none) (hs:arr.size=cs.length)
  (hr:∀i y,cs[i]?=some y→R w (E.good w ρ) ρ y (arr.getD i undef)):
  ∃ρ',SatR E {st with ob:=upd st.ob k (some o)} a (w.alloc (.cells arr t)) ρ'∧R (w.alloc (.cells arr t)) (E.good (w.alloc (.cells arr t)) ρ') ρ' x (.pointer (some ⟨w.heap.size,0,none⟩)):=by
 have fin:∀{n sz:Nat},(bif Nat.beq cs.length (n*sz)&&Nat.blt 0 n&&Nat.ble n 1000000&&AV.ksL (fun _=>false) cs then some (AV.vptr k 0 sz 0 0,Ob.vec t sz 0 n (rowOf cs sz)) else none)=some (x,o)→
   ∃ρ',SatR E {st with ob:=upd st.ob k (some o)} a (w.alloc (.cells arr t)) ρ'∧R (w.alloc (.cells arr t)) (E.good (w.alloc (.cells arr t)) ρ') ρ' x (.pointer (some ⟨w.heap.size,0,none⟩)):=by
  intro n sz hn
  cases hb:Nat.beq cs.length (n*sz)&&Nat.blt 0 n&&Nat.ble n 1000000&&AV.ksL (fun _=>false) cs with
  |false=>simp[hb] at hn
  |true=>
   simp only[hb,cond_true,Option.some.injEq,Prod.mk.injEq] at hn
   obtain⟨rfl,rfl⟩:=hn
   simp only[Bool.and_eq_true] at hb
   obtain⟨⟨⟨h1,h2⟩,h3⟩,h4⟩:=hb
   have h1:=Nat.eq_of_beq_eq_true h1
   have h2:0<n:=Nat.lt_of_succ_le (Nat.le_of_ble_eq_true h2)
   have h3:=Nat.le_of_ble_eq_true h3
   refine⟨_,h.allocRow (n:=n) (cap:=n) (sz:=sz) (f:=rowOf cs sz) hk (Nat.le_refl n) (by simp only[maxLen];omega) (by omega) (fun i hi=>rowOf_length h1 hi) (fun i j y hi hy=>?_),?_⟩
   ·obtain⟨_,hy'⟩:=rowOf_get hy
    exact(hr _ y hy').free (AV.ksL_at h4 hy')
   ·have:=R.vptr (w:=w.alloc (.cells arr t)) (G:=E.good (w.alloc (.cells arr t)) (upd ρ k (some (.hdr 0 (.slice (some ⟨w.heap.size,0,none⟩) n n))))) (k:=k) (s:=0) (sz:=sz) (i:=0) (off:=0) (upd_same ρ k (some (.hdr 0 (.slice (some ⟨w.heap.size,0,none⟩) n n)))) h2
    simpa using this
 unfold newObj at hn
 split at hn
 ·rename_i ti ht
  split at hn
  ·rename_i n e hkd
   split at hn
   ·rename_i te hte
    split at hn
    ·split at hn
     ·exact fin hn
     ·cases hn
    ·exact fin hn
   ·cases hn
  ·simp only[Option.some.injEq,Prod.mk.injEq] at hn
   obtain⟨rfl,rfl⟩:=hn
   exact⟨_,h.alloc hk hs hr,.ptr (upd_same _ _ _)⟩
 ·cases hn
theorem run_storeVar_at (hT:TOk E.P T) {t:TypeId} {ti:TI} (ht:T.find t=some ti) {v:Value} (hs:v.cells.size=ti.size) (h1:∀i,i<v.cells.size→(v.cells.getD i undef).oneCell'=true)
  {g off:Nat} {cur:Array Value} {e:TypeId} (hh:w.heap[g]?=some (.cells cur e (0,0))) (hle:off+v.cells.size≤cur.size):
  ∃cur':Array Value,(Instr.storeAt t (.pointer (some ⟨g,off,none⟩)) v).run E.P w=.ok () (w.setRow g cur')∧cur'.size=cur.size∧
   ∀i,cur'.getD i undef=if off≤i∧i<off+v.cells.size then v.cells.getD (i-off) undef else cur.getD i undef:=by
 have hst:=run_storeCells_at (P:=E.P) g off e v.cells.toList 0 cur w hh (by simpa using hle) (fun u hu=>by
  obtain⟨i,hi,rfl⟩:=List.getElem_of_mem hu
  have:=h1 i (by simpa using hi)
  simpa[show i<v.cells.size by simpa using hi] using this)
 refine⟨(cur.toList.take off++v.cells.toList++cur.toList.drop (off+v.cells.size)).toArray,?_,?_,fun i=>?_⟩
 ·simp only[Nat.add_zero,Array.length_toList] at hst
  simp[Instr.storeAt,Instr.sureAddr,storeVar,(hT t ti ht).run_sizeOf w,hs]
  rw[←hs]
  simpa using hst
 ·simp
  omega
 ·simp only[Array.getD_eq_getD_getElem?,List.getElem?_toArray]
  by_cases hc:off≤i∧i<off+v.cells.size
  ·rw[if_pos hc]
   rw[List.getElem?_append_left (by simp;omega),List.getElem?_append_right (by simp;omega)]
   simp[show min off cur.size=off by omega]
  ·rw[if_neg hc]
   by_cases hi:i<off
   ·rw[List.getElem?_append_left (by simp;omega),List.getElem?_append_left (by simp;omega)]
    simp[hi]
   ·rw[List.getElem?_append_right (by simp;omega)]
    simp only[List.length_append,List.length_take,Array.length_toList,List.getElem?_drop]
    rw[show off+v.cells.size+(i-(min off cur.size+v.cells.size))=i by omega]
    simp
theorem storeF_ok (hT:TOk E.P T) (h:SatR E st a w ρ) {t:TypeId} {x y:AV} {u v:Value} {k:Nat} {o:Ob} (hs:storeF T st.ob t x y=some (k,o)) (hx:R w (E.good w ρ) ρ x u) (hy:R w (E.good w ρ) ρ y v):
  ∃w',(Instr.storeAt t u v).run E.P w=.ok () w'∧SatR E {st with ob:=upd st.ob k (some o)} a w' ρ:=by
 unfold storeF at hs
 split at hs
 ·rename_i ti l ht hl
  obtain⟨hcs,hcr⟩:=h.cells hl hy
  cases hb:Nat.beq l.length ti.size&&l.all (oneAV st.ob) with
  |false=>simp[hb] at hs
  |true=>
   simp only[hb,cond_true] at hs
   simp only[Bool.and_eq_true] at hb
   have hsz:=Nat.eq_of_beq_eq_true hb.1
   have hone:∀i,i<v.cells.size→(v.cells.getD i undef).oneCell'=true:=fun i hi=>by
    have hi':i<l.length:=by omega
    exact h.oneCell (List.all_eq_true.1 hb.2 _ (List.getElem_mem hi')) (hcr i _ (List.getElem?_eq_getElem hi'))
   split at hs
   ·rename_i k' off
    split at hs
    ·rename_i t' cs ho
     cases hb2:Nat.ble (off+l.length) cs.length with
     |false=>simp[hb2] at hs
     |true=>
      simp only[hb2,cond_true,Option.some.injEq,Prod.mk.injEq] at hs
      obtain⟨rfl,rfl⟩:=hs
      have hle:=Nat.le_of_ble_eq_true hb2
      obtain⟨g,hk,rfl⟩:=hx.ptr_inv
      obtain⟨g',arr,hk',hh,hsa,hra⟩:=h.ob k' _ ho
      rw[hk] at hk'
      injection hk' with hk'
      injection hk' with hk'
      subst hk'
      obtain⟨cur',h1,h2,h3⟩:=run_storeVar_at (E:=E) (w:=w) hT ht (by omega) hone hh (off:=off) (by omega)
      refine⟨_,h1,h.write ho (setL_length _ _ _) fun g1 arr1 hg1 hh1 _ _=>?_⟩
      rw[hk] at hg1
      injection hg1 with hg1
      injection hg1 with hg1
      subst hg1
      rw[hh] at hh1
      injection hh1 with hh1
      injection hh1 with hh1
      subst hh1
      refine⟨cur',rfl,h2,fun i z hz=>?_⟩
      rw[h3 i]
      rw[setL_get _ _ _ _ hle] at hz
      by_cases hc:off≤i∧i<off+l.length
      ·rw[if_pos hc] at hz
       rw[if_pos (by omega)]
       exact hcr _ z hz
      ·rw[if_neg hc] at hz
       rw[if_neg (by omega)]
       exact hra i z hz
    ·cases hs
   ·rename_i k' s sz i off
    split at hs
    ·rename_i e sz' s' n f ho
     cases hb2:Nat.beq s s'&&Nat.beq sz sz'&&AV.ksL (fun _=>false) l with
     |false=>simp[hb2] at hs
     |true=>
      simp only[hb2,cond_true] at hs
      simp only[Bool.and_eq_true] at hb2
      have e1:=Nat.eq_of_beq_eq_true hb2.1.1
      have e2:=Nat.eq_of_beq_eq_true hb2.1.2
      subst e1 e2
      obtain⟨_,_,_,_,g,cap,cur,ho',hk',rfl,hi,hnc,hm,hh,hsc,hf,hrf⟩:=h.live_vptr (by simp[live,ho]) hx
      rw[ho] at ho'
      injection ho' with ho'
      injection ho' with q1 q2 _ q4 q5
      subst q1 q2 q4 q5
      have hin:(i+1)*sz≤cap*sz:=Nat.mul_le_mul_right sz (Nat.le_trans hi hnc)
      rw[Nat.add_mul] at hin
      split at hs
      ·rename_i m e' hkd
       cases hb3:Nat.beq i 0&&Nat.beq off 0&&Nat.beq m n&&Nat.beq l.length (n*sz) with
       |false=>simp[hb3] at hs
       |true=>
        simp only[hb3,cond_true,Option.some.injEq,Prod.mk.injEq] at hs
        obtain⟨rfl,rfl⟩:=hs
        simp only[Bool.and_eq_true] at hb3
        have z1:=Nat.eq_of_beq_eq_true hb3.1.1.1
        have z2:=Nat.eq_of_beq_eq_true hb3.1.1.2
        have z4:=Nat.eq_of_beq_eq_true hb3.2
        subst z1 z2
        have hncs:=Nat.mul_le_mul_right sz hnc
        obtain⟨cur',h1,h2,h3⟩:=run_storeVar_at (E:=E) (w:=w) hT ht (by omega) hone hh (off:=0) (by omega)
        refine⟨w.setRow g cur',by simpa using h1,h.writeRow ho (fun i hi=>rowOf_length z4 hi) (fun g1 cap1 cur1 hg1 hh1 _ _ _=>?_) hi⟩
        rw[hk'] at hg1
        injection hg1 with hg1
        injection hg1 with _ hg1
        injection hg1 with hg1 _ hg2
        injection hg1 with hg1
        injection hg1 with hg1
        subst hg1 hg2
        rw[hh] at hh1
        injection hh1 with hh1
        injection hh1 with hh1
        subst hh1
        refine⟨cur',rfl,h2,fun i j z hi' hz=>?_⟩
        obtain⟨hj,hz'⟩:=rowOf_get hz
        rw[h3,if_pos (by have:=(List.getElem?_eq_some_iff.1 hz').1;omega)]
        simp only[Nat.sub_zero]
        exact(hcr _ z hz').free (AV.ksL_at hb2.2 hz')
      ·cases hb3:Nat.ble (off+l.length) sz with
       |false=>simp[hb3] at hs
       |true=>
        simp only[hb3,cond_true,Option.some.injEq,Prod.mk.injEq] at hs
        obtain⟨rfl,rfl⟩:=hs
        have hle:=Nat.le_of_ble_eq_true hb3
        obtain⟨cur',h1,h2,h3⟩:=run_storeVar_at (E:=E) (w:=w) hT ht (by omega) hone hh (off:=i*sz+off) (by omega)
        refine⟨w.setRow g cur',h1,h.writeRow ho (fun j hj=>?_) (fun g1 cap1 cur1 hg1 hh1 _ _ hrc=>?_) (by omega)⟩
        ·unfold setRowF
         cases hji:Nat.beq j i with
         |true=>rw[cond_true,setL_length];exact hf i hi
         |false=>rw[cond_false];exact hf j hj
        ·rw[hk'] at hg1
         injection hg1 with hg1
         injection hg1 with _ hg1
         injection hg1 with hg1 _ hg2
         injection hg1 with hg1
         injection hg1 with hg1
         subst hg1 hg2
         rw[hh] at hh1
         injection hh1 with hh1
         injection hh1 with hh1
         subst hh1
         refine⟨cur',rfl,h2,fun j jj z hj hz=>?_⟩
         rw[h3]
         unfold setRowF at hz
         cases hji:Nat.beq j i with
         |true=>
          have:=Nat.eq_of_beq_eq_true hji
          subst this
          rw[hji,cond_true,setL_get _ _ _ _ (by rw[hf j hj];exact hle)] at hz
          by_cases hc:off≤jj∧jj<off+l.length
          ·rw[if_pos hc] at hz
           rw[if_pos (by omega),show j*sz+jj-(j*sz+off)=jj-off by omega]
           exact(hcr _ z hz).free (AV.ksL_at hb2.2 hz)
          ·rw[if_neg hc] at hz
           rw[if_neg (by omega)]
           exact hrc j jj z hj hz
         |false=>
          rw[hji,cond_false] at hz
          have hne:j≠i:=fun e=>by rw[e] at hji;simp at hji
          have hjj:jj<sz:=by
           have:=(List.getElem?_eq_some_iff.1 hz).1
           rw[hf j hj] at this;exact this
          rw[if_neg]
          ·exact hrc j jj z hj hz
          ·rcases Nat.lt_or_gt_of_ne hne with hlt|hgt
           ·have:(j+1)*sz≤i*sz:=Nat.mul_le_mul_right sz hlt
            rw[Nat.add_mul] at this;omega
           ·have:(i+1)*sz≤j*sz:=Nat.mul_le_mul_right sz hgt
            rw[Nat.add_mul] at this;omega
    ·cases hs
   ·cases hs
 ·cases hs
end
end Go.Eng
end
section
namespace Go.Eng
def bsCells (T:TE) (ob:Nat→Option Ob) (t len:Nat) (parts:List (Nat×AV)):Option (Nat×Nat×List AV):=
 match T.find t with
 |some ti=>match ti.kind with
  |.slice e=>match T.find e,pcells ob parts with
   |some te,some ps=>bif Nat.ble (len*te.size) 16777216&&Nat.beq te.zero.length te.size&&!te.zero.isEmpty then
     (match fillF (fun i=>some (i*te.size,te.size)) ((List.range (len*te.size)).map fun i=>AV.c ((te.zero[i%te.size]?).getD undef)) ps with
      |some l=>bif Nat.beq l.length (len*te.size) then(match frcL l with
       |some l'=>some (e,te.size,l')
       |none=>none) else none
      |none=>none) else none
   |_,_=>none
  |_=>none
 |none=>none
def srcF (ob:Nat→Option Ob):AV→Option (Nat×Nat×(Nat→List AV))
 |.rs sz n f=>some (sz,n,f)
 |.vec k s=>match ob k with
  |some (.vec _ sz s' n f)=>bif Nat.beq s s' then some (sz,n,f) else none
  |_=>none
 |_=>none
def catF (n:Nat) (f h:Nat→List AV):Nat→List AV:=fun i=>bif Nat.blt i n then f i else h (i-n)
def appendF (T:TE) (ob:Nat→Option Ob) (k t:Nat) (s x:AV):Option (List Prop×Eff):=
 match T.find t with
 |some ti=>match ti.kind with
  |.slice e=>match T.find e,srcF ob x with
   |some te,some (sz,m,h)=>bif Nat.beq sz te.size&&Nat.beq te.zero.length te.size&&!te.zero.isEmpty then
     (match s with
      |.vec k1 s1=>match ob k1 with
       |some (.vec e' sz' s' n f)=>bif Nat.beq e e'&&Nat.beq sz sz'&&Nat.beq s1 s' then
         some ([n+m≤9223372036854775807,(n+m)*te.bytes≤140737488355328,∀i,i<m→(h i).all (oneAV (fun _=>none))=true],⟨.vec k1 (s1+1),some (k1,.vec e sz (s1+1) (n+m) (catF n f h))⟩) else none
       |_=>none
      |.c (.slice none 0 0)=>match ob k with
       |none=>some ([m≤9223372036854775807,m*te.bytes≤140737488355328,∀i,i<m→(h i).all (oneAV (fun _=>none))=true],⟨.vec k 0,some (k,.vec e sz 0 m h)⟩)
       |_=>none
      |_=>none) else none
   |_,_=>none
  |_=>none
 |none=>none
section
variable {E:Env} {st:ST} {a:Act} {w:World} {ρ:Rho} {T:TE}
theorem bs_run (hT:TOk E.P T) (h:SatR E st a w ρ) {t len:Nat} {parts:Array (Nat×Operand)} {e:Operand→AV} {el sz:Nat} {l:List AV} (he:∀p∈parts,R w (E.good w ρ) ρ (e p.2) (a.eval p.2))
  (hb:bsCells T st.ob t len (parts.toList.map fun p=>(p.1,e p.2))=some (el,sz,l)):
  ∃arr:Array Value,(Instr.buildSlice t len (parts.map fun(i,x)=>(i,a.eval x))).run E.P w=.ok (.slice (some ⟨w.heap.size,0,none⟩) len len) (w.alloc (.cells arr el))∧arr.size=l.length∧l.length=len*sz∧len≤16777216∧
   ∀i x,l[i]?=some x→R w (E.good w ρ) ρ x (arr.getD i undef):=by
 unfold bsCells at hb
 split at hb
 ·rename_i ti ht
  have hkd:=(hT t ti ht).kind
  split at hb
  ·rename_i el' hk
   rw[hk] at hkd
   simp only[KindOk] at hkd
   split at hb
   ·rename_i te ps hte hps
    cases hc:Nat.ble (len*te.size) 16777216&&Nat.beq te.zero.length te.size&&!te.zero.isEmpty with
    |false=>simp[hc] at hb
    |true=>
     simp only[hc,cond_true] at hb
     simp only[Bool.and_eq_true] at hc
     have c1:=Nat.le_of_ble_eq_true hc.1.1
     have c2:=Nat.eq_of_beq_eq_true hc.1.2
     have c3:0<te.size:=by
      rw[←c2]
      cases hz:te.zero with
      |nil=>simp[hz] at hc
      |cons _ _=>simp
     split at hb
     ·rename_i l' hl
      cases hl2:Nat.beq l'.length (len*te.size) with
      |false=>simp[hl2] at hb
      |true=>
       simp only[hl2,cond_true] at hb
       split at hb
       case h_2=>cases hb
       rename_i l2 hfl
       have:=frcL_eq hfl
       subst this
       simp only[Option.some.injEq,Prod.mk.injEq] at hb
       obtain⟨rfl,rfl,rfl⟩:=hb
       have hl3:=Nat.eq_of_beq_eq_true hl2
       have hke:=hT _ te hte
       obtain⟨z,hz,hzc⟩:=hke.run_zero w
       have hvl:((parts.map fun(i,x)=>(i,a.eval x)).toList).length=(parts.toList.map fun p=>(p.1,e p.2)).length:=by simp
       obtain⟨h1,h2⟩:=pcells_ok h hps hvl (fun j i x hj=>by
        simp only[List.getElem?_map,Option.map_eq_some_iff] at hj
        obtain⟨p,hp,he1⟩:=hj
        simp only[Prod.mk.injEq] at he1
        obtain⟨rfl,rfl⟩:=he1
        refine⟨a.eval p.2,?_,he p (by simpa using List.mem_of_getElem? hp)⟩
        simp only[Array.toList_map,List.getElem?_map,hp];rfl)
       obtain⟨arr,h3,h4,h5⟩:=fillF_ok (arr:=(Array.range (len*te.size)).map (te.zero.toArray[·%te.zero.toArray.size]!)) hl h1 h2 (by simp) (fun i x hx=>by
        simp only[List.getElem?_map,Option.map_eq_some_iff] at hx
        obtain⟨j,hj,rfl⟩:=hx
        have hjj:=List.getElem?_eq_some_iff.1 hj
        obtain⟨hlt,hje⟩:=hjj
        simp only[List.length_range] at hlt
        simp only[List.getElem_range] at hje
        subst hje
        have hmod:i%te.size<te.zero.length:=by rw[c2];exact Nat.mod_lt _ c3
        have:(((Array.range (len*te.size)).map (te.zero.toArray[·%te.zero.toArray.size]!)).getD i undef)=(te.zero[i%te.size]?).getD undef:=by
         have hmod':i%te.zero.length<te.zero.length:=by rw[c2] at hmod ⊢;exact hmod
         have hlt':i<(Array.range (len*te.zero.length)).size:=by rw[c2];simpa using hlt
         simp only[←c2,Array.getD_eq_getD_getElem?,Array.getElem?_map,Array.getElem?_eq_getElem hlt',Option.map_some,Option.getD_some,Array.getElem_range,List.size_toArray,List.getElem!_toArray]
         simp[hmod']
        rw[this]
        exact .c)
       refine⟨arr,?_,h4,hl3,?_,h5⟩
       ·by_cases h0:len*te.size=0
        ·have hr0:Array.range 0=#[]:=rfl
         rw[h0] at h3
         simp only[hr0,Array.map_empty] at h3
         simp[Instr.buildSlice,run_underlying hkd,hke.run_sizeOf w,h0,hr0]
         rw[show(List.map (fun(x:Nat×Operand)=>(x.1,a.eval x.2)) parts.toList)=(parts.map fun(i,x)=>(i,a.eval x)).toList by simp,h3]
         simp[newRow]
        ·simp[Instr.buildSlice,run_underlying hkd,hke.run_sizeOf w,h0,show ¬16777216<len*te.size by omega,hz,hzc]
         simp at h3
         rw[h3]
         simp[newRow]
       ·have:len*1≤len*te.size:=Nat.mul_le_mul_left len c3
        omega
     ·cases hb
   ·cases hb
  ·cases hb
 ·cases hb
end
end Go.Eng
end
