import Derived.Test.YtgpkkllbejgmlaaGreatDoorZz1
set_option linter.unusedSimpArgs false
set_option linter.unusedVariables false
section
namespace Go.Eng
inductive TK where
 |int (k:IntKind)
 |bool
 |string
 |struct (places:List (Nat×Nat)) (types:List Nat)
 |slice (e:Nat)
 |array (n e:Nat)
 |map (k e:Nat)
 |other
structure TI where
 kind:TK
 size:Nat
 bytes:Nat
 zero:List Value
 /-- the cells' kinds,where '==' goes cell by cell -/
 leaf:Option (List TK)
abbrev TE:=List (Nat×TI)
def TE.find:TE→Nat→Option TI
 |[],_=>none
 |(k,ti)::l,t=>bif Nat.beq k t then some ti else TE.find l t
def TK.agg:TK→Bool
 |.struct _ _=>true
 |.array _ _=>true
 |_=>false
def cellEq:TK→Value→Value→Option Bool
 |.int k,.int k1 a,.int k2 b=>if k=k1∧k=k2 then some (a==b) else none
 |.bool,.bool a,.bool b=>some (a==b)
 |.string,.string a,.string b=>some (a==b)
 |_,_,_=>none
def cellsEq:List TK→List Value→List Value→Option Bool
 |[],[],[]=>some true
 |[k],[x],[y]=>cellEq k x y
 |k::ks,x::xs,y::ys=>match cellEq k x y,cellsEq ks xs ys with
  |some a,some b=>some (a&&b)
  |_,_=>none
 |_,_,_=>none
def KindOk (P:Program) (t:Nat):TK→Prop
 |.int k=>P.underlying t=some (.int k)
 |.bool=>P.underlying t=some .bool
 |.string=>P.underlying t=some .string
 |.struct places types=>∃fs:Array Field,P.underlying t=some (.struct fs)∧fs.toList.mapM (fun f=>(P.info? f.type).map fun i=>(f.offset,i.size))=some places∧fs.toList.map (·.type)=types
 |.slice e=>P.underlying t=some (.slice e)
 |.array n e=>P.underlying t=some (.array n e)
 |.map k e=>P.underlying t=some (.map k e)
 |.other=>∃d,P.underlying t=some d∧(match d with|.struct _|.array _ _=>False|_=>True)
def TI.zv (ti:TI):Value:=bif ti.kind.agg then .agg ti.zero.toArray else ti.zero.headD undef
structure TIOk (P:Program) (t:Nat) (ti:TI):Prop where
 info:∃i z,P.info? t=some i∧i.size=ti.size∧i.bytes=ti.bytes∧i.zero=some z∧z.cells=ti.zero.toArray
 zvEq:∃i,P.info? t=some i∧i.zero=some ti.zv
 kind:KindOk P t ti.kind
 leaf:∀ks,ti.leaf=some ks→P.eqGuardType P.depth t=false∧∀xs ys b w,cellsEq ks xs ys=some b→(Op.equal t (.agg xs.toArray) (.agg ys.toArray)).run P w=.ok b w
 key:∀ks,ti.leaf=some ks→∀e (xs:List Value) w,xs.length=ks.length→(Instr.checkKey e 10000 t (.agg xs.toArray)).run P w=.ok () w
def TOk (P:Program) (T:TE):Prop:=∀t ti,T.find t=some ti→TIOk P t ti
theorem TOk.cons {P:Program} {k:Nat} {ti:TI} {T:TE} (h:TIOk P k ti) (hT:TOk P T):TOk P ((k,ti)::T):=by
 intro t ti' h'
 simp only[TE.find] at h'
 cases hb:Nat.beq k t with
 |true=>
  rw[hb] at h'
  injection h' with h'
  subst h'
  rw[←Nat.eq_of_beq_eq_true hb]
  exact h
 |false=>rw[hb] at h';exact hT t ti' h'
section
variable {P:Program} {t:Nat} {ti:TI} (w:World)
theorem TIOk.run_sizeOf (h:TIOk P t ti):(sizeOf t).run P w=.ok ti.size w:=by
 obtain⟨i,z,hi,hs,_⟩:=h.info
 simp[sizeOf,typeInfo,hi,hs]
theorem TIOk.run_isAgg (h:TIOk P t ti):(isAgg t).run P w=.ok ti.kind.agg w:=by
 have hk:=h.kind
 unfold isAgg
 cases hkd:ti.kind with
 |int k=>rw[hkd] at hk;simp only[KindOk] at hk;simp[run_underlying hk,TK.agg]
 |bool=>rw[hkd] at hk;simp only[KindOk] at hk;simp[run_underlying hk,TK.agg]
 |string=>rw[hkd] at hk;simp only[KindOk] at hk;simp[run_underlying hk,TK.agg]
 |struct pl ty=>rw[hkd] at hk;obtain⟨fs,hk,_⟩:=hk;simp[run_underlying hk,TK.agg]
 |slice e=>rw[hkd] at hk;simp only[KindOk] at hk;simp[run_underlying hk,TK.agg]
 |array n e=>rw[hkd] at hk;simp only[KindOk] at hk;simp[run_underlying hk,TK.agg]
 |map n e=>rw[hkd] at hk;simp only[KindOk] at hk;simp[run_underlying hk,TK.agg]
 |other=>
  rw[hkd] at hk
  obtain⟨d,hk,hd⟩:=hk
  cases d<;>simp_all [run_underlying hk,TK.agg]
theorem TIOk.run_zero (h:TIOk P t ti):∃z,(zeroValue t).run P w=.ok z w∧z.cells=ti.zero.toArray:=by
 obtain⟨i,z,hi,_,_,hz,hc⟩:=h.info
 exact⟨z,by simp[zeroValue,typeInfo,hi,hz],hc⟩
theorem TIOk.run_zv (h:TIOk P t ti):(zeroValue t).run P w=.ok ti.zv w:=by
 obtain⟨i,hi,hz⟩:=h.zvEq
 simp[zeroValue,typeInfo,hi,hz]
end
section
variable {w:World} {G:Nat→Prop} {ρ:Rho} {u:Value}
theorem R.c_inv {v:Value} (h:R w G ρ (.c v) u):u=v:=by cases h;rfl
theorem R.agg_inv {l:List AV} (h:R w G ρ (.agg l) u):∃cs:Array Value,u=.agg cs∧cs.size=l.length∧∀i a,l[i]?=some a→R w G ρ a (cs.getD i undef):=by
 cases h with|agg hs h=>exact⟨_,rfl,hs,h⟩
theorem R.tup_inv {l:List AV} (h:R w G ρ (.tup l) u):∃cs:Array Value,u=.tuple cs∧cs.size=l.length∧∀i a,l[i]?=some a→R w G ρ a (cs.getD i undef):=by
 cases h with|tup hs h=>exact⟨_,rfl,hs,h⟩
theorem R.ptr_inv {k off:Nat} (h:R w G ρ (.ptr k off) u):∃g,ρ k=some (.blk g)∧u=.pointer (some ⟨g,off,none⟩):=by
 cases h with|ptr hk=>exact⟨_,hk,rfl⟩
theorem R.gd_inv {g:Bool} {a:AV} (h:R w G ρ (.gd g a) u):(g=true→R w G ρ a u)∧(g=false→u=undef):=by
 cases h with|gd h1 h2=>exact⟨h1,h2⟩
theorem R.vec_inv {k s:Nat} {hv:Value} (h:R w G ρ (.vec k s) u) (hk:ρ k=some (.hdr s hv)):u=hv:=by
 cases h with
 |vec h=>rw[hk] at h;injection h with h;injection h with _ h;exact h.symm
 |vecOld h hs=>rw[hk] at h;injection h with h;injection h with h _;omega
theorem R.vptr_inv {k s sz i off:Nat} {hv:Value} (h:R w G ρ (.vptr k s sz i off) u) (hk:ρ k=some (.hdr s hv)):
  ∃g n cap,hv=.slice (some ⟨g,0,none⟩) n cap∧i<n∧u=.pointer (some ⟨g,i*sz+off,none⟩):=by
 cases h with
 |vptr h hi=>rw[hk] at h;injection h with h;injection h with _ h;exact⟨_,_,_,h,hi,rfl⟩
 |vptrOld h hs=>rw[hk] at h;injection h with h;injection h with h _;omega
def Cells (w:World) (G:Nat→Prop) (ρ:Rho) (a:Addr) (cs:List AV):Prop:=∀i x,cs[i]?=some x→∃v,w.cell? (a.add i)=some v∧R w G ρ x v
theorem R.rptr_inv {l:List AV} (h:R w G ρ (.rptr l) u):∃a,u=.pointer (some a)∧G a.block∧Cells w G Rho.none a l:=by
 cases h with
 |rptr val hg hc h=>exact⟨_,rfl,hg,fun i x hx=>⟨val i,hc i (List.getElem?_eq_some_iff.1 hx).1,h i x hx⟩⟩
theorem R.rptr_mk {l:List AV} {a:Addr} (hg:G a.block) (h:Cells w G Rho.none a l):R w G ρ (.rptr l) (.pointer (some a)):=by
 refine .rptr (fun i=>(w.cell? (a.add i)).getD undef) hg (fun i hi=>?_) fun i x hx=>?_
 ·obtain⟨v,hv,_⟩:=h i _ (List.getElem?_eq_getElem hi);simp[hv]
 ·obtain⟨v,hv,hr⟩:=h i x hx;simpa[hv] using hr
theorem R.rs_inv {sz n:Nat} {f:Nat→List AV} (h:R w G ρ (.rs sz n f) u):∃A cap,u=.slice A n cap∧n≤cap∧cap≤maxLen∧(∀i,i<n→(f i).length=sz)∧
  (0<n→∃a,A=some a∧G a.block∧∀i,i<n→Cells w G Rho.none (a.add (i*sz)) (f i)):=by
 cases h with
 |rs val hn hm hc hl h=>
  refine⟨_,_,rfl,hn,hm,hl,fun h0=>?_⟩
  obtain⟨a,rfl,hg,hcc⟩:=hc h0
  refine⟨a,rfl,hg,fun i hi j x hx=>⟨val i j,?_,h i j x hi hx⟩⟩
  rw[add_add]
  exact hcc i j hi (by rw[←hl i hi];exact(List.getElem?_eq_some_iff.1 hx).1)
theorem R.rs_mk {sz n cap:Nat} {f:Nat→List AV} {A:Option Addr} (hn:n≤cap) (hm:cap≤maxLen) (hl:∀i,i<n→(f i).length=sz)
  (h:0<n→∃a,A=some a∧G a.block∧∀i,i<n→Cells w G Rho.none (a.add (i*sz)) (f i)):R w G ρ (.rs sz n f) (.slice A n cap):=by
 refine .rs (fun i j=>(w.cell? ((A.getD default).add (i*sz+j))).getD undef) hn hm (fun h0=>?_) hl fun i j x hi hx=>?_
 ·obtain⟨a,rfl,hg,hc⟩:=h h0
  refine⟨a,rfl,hg,fun i j hi hj=>?_⟩
  obtain⟨v,hv,_⟩:=hc i hi j _ (List.getElem?_eq_getElem (by rw[hl i hi];exact hj))
  rw[add_add] at hv
  simp[hv]
 ·obtain⟨a,rfl,hg,hc⟩:=h (by omega)
  obtain⟨v,hv,hr⟩:=hc i hi j x hx
  rw[add_add] at hv
  simpa[hv] using hr
theorem Cells.drop {a:Addr} {cs:List AV} (h:Cells w G ρ a cs) (n:Nat):Cells w G ρ (a.add n) (cs.drop n):=by
 intro i x hx
 rw[List.getElem?_drop] at hx
 rw[add_add]
 exact h _ x hx
end
def cellsAt (ti:TI) (cs:List AV) (off:Nat):Option AV:=
 bif ti.kind.agg then(bif Nat.ble (off+ti.size) cs.length then some (.agg ((cs.drop off).take ti.size)) else none) else cs[off]?
section
variable {P:Program} {w:World} {G:Nat→Prop} {ρ:Rho} {T:TE} {t:Nat} {ti:TI}
theorem run_loadVar (ht:TIOk P t ti) {a:Addr} {cs:List AV} {off:Nat} {x:AV} (h:Cells w G ρ a cs) (hx:cellsAt ti cs off=some x):
  ∃v,(loadVar t (a.add off)).run P w=.ok v w∧R w G ρ x v:=by
 unfold cellsAt at hx
 cases hk:ti.kind.agg with
 |false=>
  simp only[hk,cond_false] at hx
  obtain⟨v,hv,hr⟩:=h off x hx
  exact⟨v,by simp[loadVar,ht.run_isAgg w,hk,hv],hr⟩
 |true=>
  simp only[hk,cond_true] at hx
  cases hb:Nat.ble (off+ti.size) cs.length with
  |false=>rw[hb] at hx;simp at hx
  |true=>
   rw[hb] at hx
   simp only[cond_true] at hx
   injection hx with hx
   subst hx
   have hle:=Nat.le_of_ble_eq_true hb
   refine⟨.agg ((List.range ti.size).map fun j=>(w.cell? ((a.add off).add j)).getD undef).toArray,?_,.agg (by simp;omega) fun i y hy=>?_⟩
   ·have:(loadCells (a.add off) ti.size).run P w=_:=run_loadCells (P:=P) w (a.add off) ti.size (fun j=>(w.cell? ((a.add off).add j)).getD undef) fun j hj=>by
     obtain⟨v,hv,_⟩:=h (off+j) _ (List.getElem?_eq_getElem (by omega))
     rw[add_add,hv];rfl
    simp[loadVar,ht.run_isAgg w,hk,ht.run_sizeOf w,this]
   ·have hi:i<ti.size:=by
     have:=(List.getElem?_eq_some_iff.1 hy).1
     simp at this;omega
    rw[List.getElem?_take,if_pos hi,List.getElem?_drop] at hy
    obtain⟨v,hv,hr⟩:=h (off+i) y hy
    simpa[hi,add_add,hv] using hr
end
end Go.Eng
end
section
namespace Go.Eng
def AllP:List Prop→Prop
 |[]=>True
 |[p]=>p
 |p::l=>p∧AllP l
def frcP:List Prop→Option (List Prop)
 |[]=>some []
 |p::l=>match frcP l with
  |some l'=>some (p::l')
  |none=>none
theorem frcP_eq:∀{a b:List Prop},frcP a=some b→b=a
 |[],b,h=>by simp[frcP] at h;exact h
 |a::l,b,h=>by
  simp only[frcP] at h
  cases h1:frcP l with
  |none=>simp[h1] at h
  |some l'=>simp[h1] at h;rw[←h,frcP_eq h1]
theorem frcP_self:∀(l:List Prop),frcP l=some l
 |[]=>rfl
 |p::l=>by simp[frcP,frcP_self l]
def pushR:List Prop→List Prop→List Prop
 |[],acc=>acc
 |p::ps,acc=>pushR ps (p::acc)
theorem mem_pushR {q:Prop}:∀{l acc:List Prop},q∈pushR l acc↔q∈l∨q∈acc
 |[],acc=>by simp[pushR]
 |p::ps,acc=>by
  simp only[pushR,mem_pushR (l:=ps),List.mem_cons]
  constructor
  ·rintro (h|h|h)
   ·exact .inl (.inr h)
   ·exact .inl (.inl h)
   ·exact .inr h
  ·rintro ((h|h)|h)
   ·exact .inr (.inl h)
   ·exact .inl h
   ·exact .inr (.inr h)
def frcR:List Prop→List Prop→Option (List Prop)
 |[],out=>some out
 |p::l,out=>frcR l (p::out)
theorem frcR_mem {q:Prop}:∀{l out r:List Prop},frcR l out=some r→(q∈l∨q∈out)→q∈r
 |[],out,r,h,hq=>by
  simp only[frcR,Option.some.injEq] at h
  subst h
  simpa using hq
 |p::l,out,r,h,hq=>by
  refine frcR_mem (l:=l) h ?_
  rcases hq with hq|hq
  ·rcases List.mem_cons.1 hq with hq|hq
   ·exact .inr (by simp[hq])
   ·exact .inl hq
  ·exact .inr (List.mem_cons_of_mem _ hq)
theorem AllP.cons {p:Prop} {l:List Prop} (h:AllP (p::l)):p∧AllP l:=by
 cases l with
 |nil=>exact⟨h,trivial⟩
 |cons q l=>exact h
theorem AllP.mem:∀{l:List Prop},AllP l→∀p∈l,p
 |p::l,h,q,hq=>by
  have h':=h.cons
  rcases List.mem_cons.1 hq with rfl|hq
  ·exact h'.1
  ·exact AllP.mem h'.2 q hq
theorem AllP.memR {l r:List Prop} (hf:frcR l []=some r) (h:AllP r):∀p∈l,p:=fun p hp=>AllP.mem h p (frcR_mem hf (.inl hp))
def inK:IntKind→Int→Prop
 |.i64,n=>-9223372036854775808≤n∧n≤9223372036854775807
 |.i32,n=>-2147483648≤n∧n≤2147483647
 |.i16,n=>-32768≤n∧n≤32767
 |.i8,n=>-128≤n∧n≤127
 |.u64,n=>0≤n∧n≤18446744073709551615
 |.u32,n=>0≤n∧n≤4294967295
 |.u16,n=>0≤n∧n≤65535
 |.u8,n=>0≤n∧n≤255
theorem wrap_in {k:IntKind} {n:Int} (h:inK k n):k.wrap n=n:=by
 cases k
 ·exact IntWalk.i8_in n h
 ·exact IntWalk.i16_in n h
 ·exact IntWalk.i32_in n h
 ·exact IntWalk.i64_in n h
 ·exact IntWalk.u8_in n h
 ·exact IntWalk.u16_in n h
 ·exact IntWalk.u32_in n h
 ·exact IntWalk.u64_in n h
def arith (wr:Bool) (k:IntKind) (r:Int):Option (List Prop×AV):=bif wr then some ([],.c (.int k (k.wrap r))) else some ([inK k r],.c (.int k r))
theorem arith_ok {wr:Bool} {k:IntKind} {r:Int} {obl:List Prop} {x:AV} (h:arith wr k r=some (obl,x)) (ho:∀p∈obl,p):x=.c (.int k (k.wrap r)):=by
 unfold arith at h
 cases wr with
 |true=>simp at h;exact h.2.symm
 |false=>simp at h;obtain⟨rfl,rfl⟩:=h;rw[wrap_in (ho _ (by simp))]
def intF (wr:Bool) (op:BinOp) (k:IntKind) (a b:Int):Option (List Prop×AV):=
 match op with
 |.add=>arith wr k (a+b)
 |.sub=>arith wr k (a-b)
 |.mul=>arith wr k (a*b)
 |.quo=>match arith wr k (a.tdiv b) with
  |some (l,x)=>some ((b≠0)::l,x)
  |none=>none
 |.rem=>some ([b≠0],.c (.int k (a.tmod b)))
 |.eql=>some ([],.c (.bool (a==b)))
 |.neq=>some ([],.c (.bool (a !=b)))
 |.lss=>some ([],.c (.bool (decide (a<b))))
 |.leq=>some ([],.c (.bool (decide (a≤b))))
 |.gtr=>some ([],.c (.bool (decide (b<a))))
 |.geq=>some ([],.c (.bool (decide (b≤a))))
 |.and=>some ([],.c (.int k (bits .and k a b)))
 |.or=>some ([],.c (.int k (bits .or k a b)))
 |.xor=>some ([],.c (.int k (bits .xor k a b)))
 |.andNot=>some ([],.c (.int k (bits .andNot k a b)))
 |.shr=>some ([0≤b],.c (.int k (a.fdiv (2^(min b.toNat k.bits)))))
 |.shl=>some ([0≤b],.c (.int k (k.wrap (a*2^(min b.toNat k.bits)))))
theorem intF_ok {P:Program} {w:World} {wr:Bool} {op:BinOp} {k:IntKind} {a b:Int} {obl:List Prop} {x:AV} (t:TypeId) (h:intF wr op k a b=some (obl,x)) (ho:∀p∈obl,p):
  ∃v,(binOp op t (.int k a) (.int k b)).run P w=.ok v w∧x=.c v:=by
 cases op<;>simp only[intF] at h
 case add=>exact⟨_,by rw[binOp_add];rfl,arith_ok h ho⟩
 case sub=>exact⟨_,by rw[binOp_sub];rfl,arith_ok h ho⟩
 case mul=>exact⟨_,by rw[binOp_mul];rfl,arith_ok h ho⟩
 case quo=>
  cases ha:arith wr k (a.tdiv b) with
  |none=>simp[ha] at h
  |some y=>
   obtain⟨l,y⟩:=y
   simp only[ha,Option.some.injEq,Prod.mk.injEq] at h
   obtain⟨rfl,rfl⟩:=h
   have hb:b≠0:=ho _ (by simp)
   exact⟨_,by rw[binOp_quo];simp only[Op.intDiv,if_neg hb];rfl,arith_ok ha fun p hp=>ho p (by simp[hp])⟩
 case shr=>
  simp only[Option.some.injEq,Prod.mk.injEq] at h
  obtain⟨rfl,rfl⟩:=h
  have hb:¬b<0:=by have:=ho (0≤b) (by simp);omega
  exact⟨_,by simp only[binOp,Op.shift,if_neg hb];rfl,rfl⟩
 case shl=>
  simp only[Option.some.injEq,Prod.mk.injEq] at h
  obtain⟨rfl,rfl⟩:=h
  have hb:¬b<0:=by have:=ho (0≤b) (by simp);omega
  exact⟨_,by simp only[binOp,Op.shift,if_neg hb];rfl,rfl⟩
 case rem=>
  simp only[Option.some.injEq,Prod.mk.injEq] at h
  obtain⟨rfl,rfl⟩:=h
  have hb:b≠0:=ho _ (by simp)
  exact⟨_,by rw[binOp_rem];simp only[Op.intDiv,if_neg hb];rfl,rfl⟩
 all_goals first
  |(simp at h;done)
  |(simp only[Option.some.injEq,Prod.mk.injEq] at h
    obtain⟨rfl,rfl⟩:=h
    first
     |exact⟨_,by rw[binOp_eql];rfl,rfl⟩
     |exact⟨_,by rw[binOp_neq];rfl,rfl⟩
     |exact⟨_,by rw[binOp_lss];rfl,rfl⟩
     |exact⟨_,by rw[binOp_leq];rfl,rfl⟩
     |exact⟨_,by rw[binOp_gtr];rfl,rfl⟩
     |exact⟨_,by rw[binOp_geq];rfl,rfl⟩
     |exact⟨_,by rw[binOp_and,intBits_and];rfl,rfl⟩
     |exact⟨_,by rw[binOp_or,intBits_or];rfl,rfl⟩
     |exact⟨_,by rw[binOp_xor,intBits_xor];rfl,rfl⟩
     |exact⟨_,by rw[binOp_andNot,intBits_andNot];rfl,rfl⟩)
def shF (op:BinOp) (k:IntKind) (a b:Int):Option (List Prop×AV):=
 match op with
 |.shr=>some ([0≤b],.c (.int k (a.fdiv (2^(min b.toNat k.bits)))))
 |.shl=>some ([0≤b],.c (.int k (k.wrap (a*2^(min b.toNat k.bits)))))
 |_=>none
theorem shF_ok {P:Program} {w:World} {op:BinOp} {k k':IntKind} {a b:Int} {obl:List Prop} {x:AV} (t:TypeId) (h:shF op k a b=some (obl,x)) (ho:∀p∈obl,p):
  ∃v,(binOp op t (.int k a) (.int k' b)).run P w=.ok v w∧x=.c v:=by
 cases op<;>simp only[shF] at h
 case shr=>
  simp only[Option.some.injEq,Prod.mk.injEq] at h
  obtain⟨rfl,rfl⟩:=h
  have hb:¬b<0:=by have:=ho (0≤b) (by simp);omega
  exact⟨_,by simp only[binOp,Op.shift,if_neg hb];rfl,rfl⟩
 case shl=>
  simp only[Option.some.injEq,Prod.mk.injEq] at h
  obtain⟨rfl,rfl⟩:=h
  have hb:¬b<0:=by have:=ho (0≤b) (by simp);omega
  exact⟨_,by simp only[binOp,Op.shift,if_neg hb];rfl,rfl⟩
 all_goals (simp at h;done)
def vals:List AV→Option (List Value)
 |[]=>some []
 |.c v::l=>match vals l with
  |some vs=>some (v::vs)
  |none=>none
 |_=>none
theorem vals_ok {w:World} {G:Nat→Prop} {ρ:Rho}:∀{l:List AV} {vs:List Value} {cs:Array Value},vals l=some vs→cs.size=l.length→(∀i a,l[i]?=some a→R w G ρ a (cs.getD i undef))→cs=vs.toArray:=by
 intro l vs cs h hs hr
 have key:∀(l:List AV) (vs:List Value),vals l=some vs→vs.length=l.length∧∀(i:Nat) (v:Value),vs[i]?=some v→l[i]?=some (AV.c v):=by
  intro l
  induction l with
  |nil=>intro vs h;simp[vals] at h;subst h;simp
  |cons a l ih=>
   intro vs h
   cases a<;>simp only[vals] at h<;>try (simp at h;done)
   rename_i v
   cases hv:vals l with
   |none=>simp[hv] at h
   |some us=>
    simp[hv] at h
    subst h
    obtain⟨h1,h2⟩:=ih us hv
    refine⟨by simp[h1],fun i u hu=>?_⟩
    cases i with
    |zero=>simp at hu ⊢;exact hu
    |succ i=>simp at hu ⊢;exact h2 i u hu
 obtain⟨h1,h2⟩:=key l vs h
 apply Array.ext
 ·simp[hs,h1]
 ·intro i hi hi'
  simp at hi'
  have hv:vs[i]?=some vs[i]:=List.getElem?_eq_getElem hi'
  have:=(hr i _ (h2 i _ hv)).c_inv
  simp[hi] at this
  simp[this]
def eqF (T:TE) (t:Nat) (l l':List AV):Option Bool:=
 match T.find t with
 |none=>none
 |some ti=>match ti.leaf with
  |none=>none
  |some ks=>match vals l,vals l' with
   |some xs,some ys=>cellsEq ks xs ys
   |_,_=>none
def binF (T:TE) (wr:Bool) (op:BinOp) (t:TypeId):AV→AV→Option (List Prop×AV)
 |.c (.int k a),.c (.int k' b)=>if k=k' then intF wr op k a b else shF op k a b
 |.c (.string a),.c (.string b)=>match op with
  |.eql=>some ([],.c (.bool (a==b)))
  |.neq=>some ([],.c (.bool (!(a==b))))
  |.lss=>some ([],.c (.bool (Op.bytesLess a.toList b.toList)))
  |.gtr=>some ([],.c (.bool (!(Op.bytesLess a.toList b.toList||a==b))))
  |.leq=>some ([],.c (.bool (Op.bytesLess a.toList b.toList||a==b)))
  |.geq=>some ([],.c (.bool (!(Op.bytesLess a.toList b.toList))))
  |.add=>some ([((a.size+b.size:Nat):Int)≤9223372036854775807],.c (.string (a++b)))
  |_=>none
 |.c (.bool a),.c (.bool b)=>match T.find t with
  |some ti=>match ti.kind,op with
   |.bool,.eql=>some ([],.c (.bool (a==b)))
   |.bool,.neq=>some ([],.c (.bool (!(a==b))))
   |_,_=>none
  |none=>none
 |.agg l,.agg l'=>match op with
  |.eql=>match eqF T t l l' with
   |some b=>some ([],.c (.bool b))
   |none=>none
  |.neq=>match eqF T t l l' with
   |some b=>some ([],.c (.bool (!b)))
   |none=>none
  |_=>none
 |.rs _ n _,.c (.slice none 0 0)=>match T.find t with
  |some ti=>match ti.kind,op with
   |.slice _,.eql=>some ([0<n],.c (.bool false))
   |.slice _,.neq=>some ([0<n],.c (.bool true))
   |_,_=>none
  |none=>none
 |.c (.slice A _ _),.c (.slice none 0 0)=>match T.find t with
  |some ti=>match ti.kind,op with
   |.slice _,.eql=>some ([],.c (.bool A.isNone))
   |.slice _,.neq=>some ([],.c (.bool (!A.isNone)))
   |_,_=>none
  |none=>none
 |_,_=>none
theorem run_equalIn_sliceNil {P:Program} (w:World) (d:Nat) (t e:TypeId) (ad:Addr) (n cap:Nat) (hk:P.underlying t=some (.slice e)):(Op.equalIn (d+1) t (.slice (some ad) n cap) (.slice none 0 0)).run P w=.ok false w:=by
 simp only[Op.equalIn,Sem.run_bind,run_underlying hk,Result.andThen_ok]
 rfl
theorem run_equalIn_slicesNil {P:Program} (w:World) (d:Nat) (t e:TypeId) (A:Option Addr) (n cap:Nat) (hk:P.underlying t=some (.slice e)):(Op.equalIn (d+1) t (.slice A n cap) (.slice none 0 0)).run P w=.ok A.isNone w:=by
 simp only[Op.equalIn,Sem.run_bind,run_underlying hk,Result.andThen_ok]
 cases A<;>rfl
theorem run_binGuard {P:Program} {w:World} {op:BinOp} {t:TypeId} {x y:Operand} {u v:Value} {r:Value} (hg:(eqGuard op t x y u v).run P w=.ok () w) (h:(binOp op t u v).run P w=.ok r w):
  (do eqGuard op t x y u v;binOp op t u v:Sem Value).run P w=.ok r w:=by
 simp[hg,h]
theorem binF_ok {P:Program} {T:TE} (hT:TOk P T) {w:World} {G:Nat→Prop} {ρ:Rho} {wr:Bool} {op:BinOp} {t:TypeId} {x y r:AV} {u v:Value} {obl:List Prop} (ox oy:Operand)
  (h:binF T wr op t x y=some (obl,r)) (ho:∀p∈obl,p) (hx:R w G ρ x u) (hy:R w G ρ y v):
  ∃z,(do eqGuard op t ox oy u v;binOp op t u v:Sem Value).run P w=.ok z w∧R w G ρ r z:=by
 unfold binF at h
 split at h
 ·rename_i k a k' b
  rw[hx.c_inv,hy.c_inv]
  split at h
  ·rename_i hk
   subst hk
   obtain⟨z,hz,rfl⟩:=intF_ok (P:=P) (w:=w) t h ho
   exact⟨z,run_binGuard (by rw[eqGuard_at_int];rfl) hz,.c⟩
  ·obtain⟨z,hz,rfl⟩:=shF_ok (P:=P) (w:=w) (k':=k') t h ho
   exact⟨z,run_binGuard (by rw[eqGuard_at_int];rfl) hz,.c⟩
 ·rename_i a b
  rw[hx.c_inv,hy.c_inv]
  have hgd:∀op,(eqGuard op t ox oy (.string a) (.string b)).run P w=.ok () w:=fun op=>by rw[eqGuard_at_string];rfl
  have hst:∀op,(op=.eql∨op=.neq∨op=.lss∨op=.leq∨op=.gtr∨op=.geq∨op=.add)→binOp op t (.string a) (.string b)=Op.stringOp op a b:=by
   rintro op (rfl|rfl|rfl|rfl|rfl|rfl|rfl)<;>rfl
  have hbq:=beq_toListBytes a b
  cases op<;>simp only at h<;>first
   |(cases h;done)
   |(simp only[Option.some.injEq,Prod.mk.injEq] at h
     obtain⟨rfl,rfl⟩:=h
     refine⟨_,run_binGuard (hgd _) (by rw[hst _ (by simp)];simp only[Op.stringOp,←hbq];rfl),.c⟩)
   |skip
  simp only[Option.some.injEq,Prod.mk.injEq] at h
  obtain⟨rfl,rfl⟩:=h
  have hs:((a.size+b.size:Nat):Int)≤9223372036854775807:=ho _ (by simp)
  refine⟨_,run_binGuard (hgd _) (by rw[hst _ (by simp)];simp only[Op.stringOp];rw[if_neg (by rw[IntKind.max_i64];omega)];rfl),.c⟩
 ·rename_i a b
  rw[hx.c_inv,hy.c_inv]
  cases hf:T.find t with
  |none=>simp[hf] at h
  |some ti=>
   simp only[hf] at h
   have hk:=(hT t ti hf).kind
   split at h
   ·rename_i hkd
    rw[hkd] at hk
    simp only[KindOk] at hk
    simp only[Option.some.injEq,Prod.mk.injEq] at h
    obtain⟨rfl,rfl⟩:=h
    have he:(Op.equal t (.bool a) (.bool b)).run P w=.ok (a==b) w:=run_equalIn_bool' w 9999 t a b hk
    exact⟨.bool (a==b),run_binGuard (by rw[eqGuard_at_bool];rfl) (by simp[binOp,he]),.c⟩
   ·rename_i hkd
    rw[hkd] at hk
    simp only[KindOk] at hk
    simp only[Option.some.injEq,Prod.mk.injEq] at h
    obtain⟨rfl,rfl⟩:=h
    have he:(Op.equal t (.bool a) (.bool b)).run P w=.ok (a==b) w:=run_equalIn_bool' w 9999 t a b hk
    exact⟨.bool (!(a==b)),run_binGuard (by rw[eqGuard_at_bool];rfl) (by simp[binOp,he]),.c⟩
   ·cases h
 ·rename_i l l'
  obtain⟨cs,rfl,hs,hr⟩:=hx.agg_inv
  obtain⟨cs',rfl,hs',hr'⟩:=hy.agg_inv
  have key:∀b,eqF T t l l'=some b→(Op.equal t (.agg cs) (.agg cs')).run P w=.ok b w∧∀op,(eqGuard op t ox oy (.agg cs) (.agg cs')).run P w=.ok () w:=by
   intro b hb
   unfold eqF at hb
   cases hf:T.find t with
   |none=>simp[hf] at hb
   |some ti=>
    cases hlf:ti.leaf with
    |none=>simp[hf,hlf] at hb
    |some ks=>
     simp only[hf,hlf] at hb
     split at hb
     ·rename_i xs ys h1 h2
      obtain⟨h3,h4⟩:=(hT t ti hf).leaf ks hlf
      rw[vals_ok h1 hs hr,vals_ok h2 hs' hr']
      exact⟨h4 xs ys b w hb,fun op=>run_eqGuard_agg w op t ox oy _ _ h3⟩
     ·cases hb
  cases op<;>simp only at h<;>try (cases h;done)
  ·cases hq:eqF T t l l' with
   |none=>simp[hq] at h
   |some b=>
    simp only[hq,Option.some.injEq,Prod.mk.injEq] at h
    obtain⟨rfl,rfl⟩:=h
    obtain⟨h1,h2⟩:=key b hq
    exact⟨.bool b,run_binGuard (h2 _) (by simp[binOp,h1]),.c⟩
  ·cases hq:eqF T t l l' with
   |none=>simp[hq] at h
   |some b=>
    simp only[hq,Option.some.injEq,Prod.mk.injEq] at h
    obtain⟨rfl,rfl⟩:=h
    obtain⟨h1,h2⟩:=key b hq
    exact⟨.bool (!b),run_binGuard (h2 _) (by simp[binOp,h1]),.c⟩
 ·rename_i sz n f
  cases hf:T.find t with
  |none=>simp[hf] at h
  |some ti=>
   simp only[hf] at h
   have hk:=(hT t ti hf).kind
   rw[hy.c_inv]
   obtain⟨A,cap,rfl,hn,hm,hl,hc⟩:=hx.rs_inv
   split at h
   ·rename_i e hkd
    rw[hkd] at hk
    simp only[KindOk] at hk
    simp only[Option.some.injEq,Prod.mk.injEq] at h
    obtain⟨rfl,rfl⟩:=h
    obtain⟨ad,rfl,_⟩:=hc (ho _ (by simp))
    have he:(Op.equal t (.slice (some ad) n cap) (.slice none 0 0)).run P w=.ok false w:=run_equalIn_sliceNil w 9999 t _ ad n cap hk
    exact⟨.bool false,run_binGuard (by simp[eqGuard]) (by simp[binOp,he]),.c⟩
   ·rename_i e hkd
    rw[hkd] at hk
    simp only[KindOk] at hk
    simp only[Option.some.injEq,Prod.mk.injEq] at h
    obtain⟨rfl,rfl⟩:=h
    obtain⟨ad,rfl,_⟩:=hc (ho _ (by simp))
    have he:(Op.equal t (.slice (some ad) n cap) (.slice none 0 0)).run P w=.ok false w:=run_equalIn_sliceNil w 9999 t _ ad n cap hk
    exact⟨.bool true,run_binGuard (by simp[eqGuard]) (by simp[binOp,he]),.c⟩
   ·cases h
 ·rename_i A n cap
  rw[hx.c_inv,hy.c_inv]
  cases hf:T.find t with
  |none=>simp[hf] at h
  |some ti=>
   simp only[hf] at h
   have hk:=(hT t ti hf).kind
   split at h
   ·rename_i e hkd
    rw[hkd] at hk
    simp only[KindOk] at hk
    simp only[Option.some.injEq,Prod.mk.injEq] at h
    obtain⟨rfl,rfl⟩:=h
    have he:(Op.equal t (.slice A n cap) (.slice none 0 0)).run P w=.ok A.isNone w:=run_equalIn_slicesNil w 9999 t _ A n cap hk
    exact⟨.bool A.isNone,run_binGuard (by simp[eqGuard]) (by simp[binOp,he]),.c⟩
   ·rename_i e hkd
    rw[hkd] at hk
    simp only[KindOk] at hk
    simp only[Option.some.injEq,Prod.mk.injEq] at h
    obtain⟨rfl,rfl⟩:=h
    have he:(Op.equal t (.slice A n cap) (.slice none 0 0)).run P w=.ok A.isNone w:=run_equalIn_slicesNil w 9999 t _ A n cap hk
    exact⟨.bool (!A.isNone),run_binGuard (by simp[eqGuard]) (by simp[binOp,he]),.c⟩
   ·cases h
 ·cases h
def unF (wr:Bool) (op:UnOp):AV→Option (List Prop×AV)
 |.c (.int k n)=>match op with
  |.neg=>arith wr k (0-n)
  |.xor=>some ([],.c (.int k (bits .xor k (if k.signed then -1 else k.max) n)))
  |_=>none
 |.c (.bool b)=>match op with
  |.not=>some ([],.c (.bool (!b)))
  |_=>none
 |_=>none
theorem unF_ok {P:Program} {w:World} {G:Nat→Prop} {ρ:Rho} {wr:Bool} {op:UnOp} {x r:AV} {u:Value} {obl:List Prop}
  (h:unF wr op x=some (obl,r)) (ho:∀p∈obl,p) (hx:R w G ρ x u):∃z,(Op.unary op u).run P w=.ok z w∧R w G ρ r z:=by
 unfold unF at h
 split at h
 ·rw[hx.c_inv]
  cases op<;>simp only at h<;>try (cases h;done)
  ·rw[arith_ok h ho]
   exact⟨_,rfl,.c⟩
  ·simp only[Option.some.injEq,Prod.mk.injEq] at h
   obtain⟨rfl,rfl⟩:=h
   exact⟨_,rfl,.c⟩
 ·rw[hx.c_inv]
  cases op<;>simp only at h<;>try (cases h;done)
  simp only[Option.some.injEq,Prod.mk.injEq] at h
  obtain⟨rfl,rfl⟩:=h
  exact⟨_,rfl,.c⟩
 ·cases h
def byteN:List AV→Int
 |[.c (.int .u8 z)]=>z
 |_=>0
def bytesS (n:Nat) (f:Nat→List AV):ByteArray:=strOfNums ((List.range n).map fun i=>byteN (f i))
theorem run_bytes_str {P:Program} {T:TE} (hT:TOk P T) {w:World} {G:Nat→Prop} {ρ:Rho} {n:Nat} {f:Nat→List AV} {u:Value} (hx:R w G ρ (.rs 1 n f) u) {src dst e:TypeId}
  (hs:P.underlying src=some (.slice e)) (he:P.underlying e=some (.int .u8)) (hd:P.underlying dst=some .string) (hb:∀i,i<n→f i=[.c (.int .u8 (byteN (f i)))]):
  (convert src dst u).run P w=.ok (.string (bytesS n f)) w:=by
 obtain⟨A,cap,rfl,hn,hm,hl,hc⟩:=hx.rs_inv
 rcases Nat.eq_zero_or_pos n with rfl|h0
 ·rw[run_convert_bytes_string w src dst e _ _ _ hs he hd]
  cases A with
  |none=>rfl
  |some a=>
   rw[run_bytesToString w a 0 cap [] (by simp[loadCells,loadCellsFrom])]
   rfl
 ·obtain⟨a,rfl,_,hcc⟩:=hc h0
  rw[run_convert_bytes_string w src dst e _ _ _ hs he hd,run_bytesToString w a n cap ((List.range n).map fun i=>byteN (f i)) ?_,foldl_push_bytes]
  ·simp[bytesS,strOfNums,ByteArray.empty,ByteArray.emptyWithCapacity];rfl
  ·have:=run_loadCells_list (P:=P) w a (((List.range n).map fun i=>byteN (f i)).map (Value.int .u8)) (fun j v hj=>by
    have hjl:j<n:=by
     have:=(List.getElem?_eq_some_iff.1 hj).1
     simpa using this
    simp only[List.getElem?_map,List.getElem?_range hjl,Option.map_some,Option.some.injEq] at hj
    subst hj
    obtain⟨v,h1,h2⟩:=hcc j hjl 0 (.c (.int .u8 (byteN (f j)))) (by rw[hb j hjl];rfl)
    rw[add_add,Nat.mul_one,Nat.add_zero] at h1
    rw[h1,h2.c_inv])
   simpa using this
def convF (T:TE) (wr:Bool) (src dst:TypeId):AV→Option (List Prop×AV)
 |.c (.int _ n)=>match T.find src,T.find dst with
  |some _,some ti=>match ti.kind with
   |.int k=>arith wr k n
   |_=>none
  |_,_=>none
 |.c (.string s)=>match T.find src,T.find dst with
  |some si,some ti=>match si.kind,ti.kind with
   |.string,.string=>some ([],.c (.string s))
   |_,_=>none
  |_,_=>none
 |.rs 1 n f=>match T.find src,T.find dst with
  |some si,some ti=>match si.kind,ti.kind with
   |.slice e,.string=>match T.find e with
    |some te=>match te.kind with
     |.int .u8=>some ([∀i,i<n→f i=[.c (.int .u8 (byteN (f i)))]],.c (.string (bytesS n f)))
     |_=>none
    |none=>none
   |_,_=>none
  |_,_=>none
 |_=>none
theorem KindOk.under {P:Program} {t:Nat} {k:TK} (h:KindOk P t k):∃d,P.underlying t=some d:=by
 cases k<;>simp only[KindOk] at h
 ·exact⟨_,h⟩
 ·exact⟨_,h⟩
 ·exact⟨_,h⟩
 ·obtain⟨fs,h,_⟩:=h;exact⟨_,h⟩
 ·exact⟨_,h⟩
 ·exact⟨_,h⟩
 ·exact⟨_,h⟩
 ·obtain⟨d,h,_⟩:=h;exact⟨d,h⟩
theorem convF_ok {P:Program} {T:TE} (hT:TOk P T) {w:World} {G:Nat→Prop} {ρ:Rho} {wr:Bool} {src dst:TypeId} {x r:AV} {u:Value} {obl:List Prop}
  (h:convF T wr src dst x=some (obl,r)) (ho:∀p∈obl,p) (hx:R w G ρ x u):∃z,(convert src dst u).run P w=.ok z w∧R w G ρ r z:=by
 unfold convF at h
 split at h
 ·rw[hx.c_inv]
  split at h
  ·rename_i si ti hs ht
   split at h
   ·rename_i hk
    have h1:=(hT _ _ ht).kind
    rw[hk] at h1
    simp only[KindOk] at h1
    obtain⟨d,h2⟩:=(hT _ _ hs).kind.under
    rw[arith_ok h ho]
    exact⟨_,by simp[convert,run_underlying h1,run_underlying h2,Conv.intToInt],.c⟩
   ·cases h
  ·cases h
 ·rw[hx.c_inv]
  split at h
  ·rename_i si ti hs ht
   split at h
   ·rename_i hk1 hk2
    have h1:=(hT _ _ ht).kind
    rw[hk2] at h1
    simp only[KindOk] at h1
    have h2:=(hT _ _ hs).kind
    rw[hk1] at h2
    simp only[KindOk] at h2
    simp only[Option.some.injEq,Prod.mk.injEq] at h
    obtain⟨rfl,rfl⟩:=h
    exact⟨_,by simp[convert,run_underlying h1,run_underlying h2],.c⟩
   ·cases h
  ·cases h
 ·split at h
  ·rename_i si ti hs ht
   split at h
   ·rename_i e hk1 hk2
    have h1:=(hT _ _ ht).kind
    rw[hk2] at h1
    simp only[KindOk] at h1
    have h2:=(hT _ _ hs).kind
    rw[hk1] at h2
    simp only[KindOk] at h2
    split at h
    ·rename_i te hte
     split at h
     ·rename_i hk3
      have h3:=(hT _ _ hte).kind
      rw[hk3] at h3
      simp only[KindOk] at h3
      simp only[Option.some.injEq,Prod.mk.injEq] at h
      obtain⟨rfl,rfl⟩:=h
      exact⟨_,run_bytes_str hT hx h2 h3 h1 (ho _ (by simp)),.c⟩
     ·cases h
    ·cases h
   ·cases h
  ·cases h
 ·cases h
end Go.Eng
end
