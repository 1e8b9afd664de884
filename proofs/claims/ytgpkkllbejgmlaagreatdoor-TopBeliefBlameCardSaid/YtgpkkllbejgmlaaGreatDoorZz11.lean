import Derived.Test.YtgpkkllbejgmlaaGreatDoorZz10
set_option linter.unusedSimpArgs false
set_option linter.unusedVariables false
section
namespace Go.Eng
def posF:List Nat→Nat→Option Nat
 |[],_=>none
 |a::l,k=>bif Nat.beq a k then some 0 else match posF l k with
  |some i=>some (i+1)
  |none=>none
def nodupB:List Nat→Bool
 |[]=>true
 |a::l=>!l.any (fun b=>Nat.beq b a)&&nodupB l
theorem posF_some:∀{L:List Nat} {k i:Nat},posF L k=some i→L[i]?=some k
 |[],k,i,h=>by cases h
 |a::l,k,i,h=>by
  simp only[posF] at h
  cases hb:Nat.beq a k with
  |true=>
   rw[hb,cond_true] at h
   injection h with h
   subst h
   simp[Nat.eq_of_beq_eq_true hb]
  |false=>
   rw[hb,cond_false] at h
   cases hp:posF l k with
   |none=>rw[hp] at h;cases h
   |some j=>
    rw[hp] at h
    injection h with h
    subst h
    simpa using posF_some hp
theorem posF_none:∀{L:List Nat} {k:Nat},posF L k=none→k∉L
 |[],k,h=>by simp
 |a::l,k,h=>by
  simp only[posF] at h
  cases hb:Nat.beq a k with
  |true=>rw[hb,cond_true] at h;cases h
  |false=>
   rw[hb,cond_false] at h
   cases hp:posF l k with
   |some j=>rw[hp] at h;cases h
   |none=>
    have:=posF_none hp
    simp only[List.mem_cons,not_or]
    exact⟨fun e=>by subst e;simp at hb,this⟩
theorem posF_of:∀{L:List Nat} {k i:Nat},nodupB L=true→L[i]?=some k→posF L k=some i
 |[],k,i,_,h=>by simp at h
 |a::l,k,i,hn,h=>by
  simp only[nodupB,Bool.and_eq_true,Bool.not_eq_true'] at hn
  simp only[posF]
  cases i with
  |zero=>
   simp at h
   subst h
   simp
  |succ i=>
   simp at h
   have hb:Nat.beq a k=false:=by
    cases hb:Nat.beq a k with
    |false=>rfl
    |true=>
     have:=Nat.eq_of_beq_eq_true hb
     subst this
     have:l.any (fun b=>Nat.beq b a)=true:=List.any_eq_true.2 ⟨a,List.mem_of_getElem? h,by simp⟩
     rw[hn.1] at this
     cases this
   rw[hb,cond_false,posF_of hn.2 h]
def renG (f:Nat→Option Nat):AV→AV
 |.ptr k off=>match f k with
  |some i=>.ptr i off
  |none=>.junk
 |.mp k=>match f k with
  |some i=>.mp i
  |none=>.junk
 |.vptr k s sz i off=>match f k with
  |some j=>.vptr j s sz i off
  |none=>.junk
 |.vec k s=>match f k with
  |some i=>.vec i s
  |none=>.junk
 |x=>x
theorem ren_leaf {w w':World} {G G':Nat→Prop} {ρ ρ':Rho} {f:Nat→Option Nat} (hρ:∀k x,ρ k=some x→f k=none∨∃i,f k=some i∧ρ' i=some x):
  ∀x v,x.isName=true→R w G ρ x v→R w' G' ρ' (renG f x) v:=by
 intro x v hx h
 cases h with
 |ptr hk=>
  rcases hρ _ _ hk with h1|⟨i,h1,h2⟩
  ·simp only[renG,h1];exact .junk
  ·simp only[renG,h1];exact .ptr h2
 |mp hk=>
  rcases hρ _ _ hk with h1|⟨i,h1,h2⟩
  ·simp only[renG,h1];exact .junk
  ·simp only[renG,h1];exact .mp h2
 |vptr hk hi=>
  rcases hρ _ _ hk with h1|⟨i,h1,h2⟩
  ·simp only[renG,h1];exact .junk
  ·simp only[renG,h1];exact .vptr h2 hi
 |vptrOld hk hs=>
  rcases hρ _ _ hk with h1|⟨i,h1,h2⟩
  ·simp only[renG,h1];exact .junk
  ·simp only[renG,h1];exact .vptrOld h2 hs
 |vec hk=>
  rcases hρ _ _ hk with h1|⟨i,h1,h2⟩
  ·simp only[renG,h1];exact .junk
  ·simp only[renG,h1];exact .vec h2
 |vecOld hk hs=>
  rcases hρ _ _ hk with h1|⟨i,h1,h2⟩
  ·simp only[renG,h1];exact .junk
  ·simp only[renG,h1];exact .vecOld h2 hs
 |_=>simp[AV.isName] at hx
structure MemR (E:Env) (O:Nat→Option Ob) (w:World) (ρ:Rho):Prop where
 keep:Keep E.M E.w0 w
 ob:∀k o,O k=some o→ObOk w (E.good w ρ) ρ k o
 no:∀k,O k=none→ρ k=none
 dis:∀k k' x x' b,ρ k=some x→ρ k'=some x'→x.block=some b→x'.block=some b→k=k'
 own:∀k x b,ρ k=some x→x.block=some b→E.w0.heap.size≤b∨E.M b
 le:∀k,k<E.N→∀x,E.r0 k=some x→ρ k=some x∨∃s v s' v',x=.hdr s v∧ρ k=some (.hdr s' v')∧s<s'
theorem SatR.mem {E:Env} {st:ST} {a:Act} {w:World} {ρ:Rho} (h:SatR E st a w ρ):MemR E st.ob w ρ:=⟨h.keep,h.ob,h.no,h.dis,h.own,h.le⟩
theorem MemR.lt {E:Env} {O:Nat→Option Ob} {w:World} {ρ:Rho} (h:MemR E O w ρ) {k:Nat} {x:RV} {b:Nat} (hx:ρ k=some x) (hb:x.block=some b):b<w.heap.size:=by
 cases ho:O k with
 |none=>rw[h.no k ho] at hx;cases hx
 |some o=>exact(h.ob k o ho).lt hx hb
def obL (O:List Ob):Nat→Option Ob:=fun k=>O[k]?
def Owned (r:Rho) (b:Nat):Prop:=∃k x,r k=some x∧x.block=some b
def Env.at_ (P:Program) (w:World) (G:Nat→Prop) (n:Nat) (r:Rho):Env:=⟨P,w,Owned r,G,n,r,none⟩
def DoesM (P:Program) (f:FuncId) (args:List AV) (O:List Ob) (res:AV) (O':List Ob):Prop:=
 FnOk P f∧O.length≤O'.length∧∀(w:World) (G:Nat→Prop) (r:Rho) (vs:Array Value),vs.size=args.length→(∀b,G b→(Env.at_ P w G O.length r).good w r b)→GlIn w G→MemR (Env.at_ P w G O.length r) (obL O) w r→
  (∀i x,args[i]?=some x→R w ((Env.at_ P w G O.length r).good w r) r x (vs.getD i undef))→
  Calls P f vs w fun e w'=>∃v ρ,e=.returned v∧MemR (Env.at_ P w G O.length r) (obL O') w' ρ∧R w' ((Env.at_ P w G O.length r).good w' ρ) ρ res v
def DoesX (C:Array Value→World→(Ending→World→Prop)→Prop) (P:Program) (args:List AV) (O:List Ob) (res:AV) (O':List Ob):Prop:=
 O.length≤O'.length∧∀(w:World) (G:Nat→Prop) (r:Rho) (vs:Array Value),vs.size=args.length→(∀b,G b→(Env.at_ P w G O.length r).good w r b)→GlIn w G→MemR (Env.at_ P w G O.length r) (obL O) w r→
  (∀i x,args[i]?=some x→R w ((Env.at_ P w G O.length r).good w r) r x (vs.getD i undef))→
  C vs w fun e w'=>∃v ρ,e=.returned v∧MemR (Env.at_ P w G O.length r) (obL O') w' ρ∧R w' ((Env.at_ P w G O.length r).good w' ρ) ρ res v
section
variable {E:Env} {st:ST} {a:Act} {w:World} {ρ:Rho} {T:TE} {Q:Exit→ST→Prop} {k:List It}
def ST.ren (st:ST) (L:List Nat):ST:=
 {st with fr:=fun j=>(st.fr j).map (renG (posF L)),ob:=fun i=>match L[i]? with
  |some k=>(st.ob k).map (Ob.map (renG (posF L)))
  |none=>none}
theorem Weak.ren {n:Nat} (L:List Nat) (hN:E.N=n) (hd:nodupB L=true) (hn:(List.range n).all (fun i=>match L[i]? with
  |some k=>Nat.beq k i
  |none=>false)=true):Weak E st (st.ren L):=by
 intro a w ⟨ρ,h⟩
 subst hN
 have hlt:∀i,i<E.N→L[i]?=some i:=by
  intro i hi
  have:=List.all_eq_true.1 hn i (List.mem_range.2 hi)
  split at this
  ·rename_i k hk
   rw[hk,Nat.eq_of_beq_eq_true this]
  ·cases this
 let ρ':Rho:=fun i=>(L[i]?).bind ρ
 have hρ:∀k x,ρ k=some x→posF L k=none∨∃i,posF L k=some i∧ρ' i=some x:=by
  intro k x hx
  cases hp:posF L k with
  |none=>exact .inl rfl
  |some i=>exact .inr ⟨i,rfl,by simp only[ρ',posF_some hp,Option.bind_some,hx]⟩
 have hback:∀i x,ρ' i=some x→∃k,L[i]?=some k∧ρ k=some x:=by
  intro i x hx
  simp only[ρ',Option.bind_eq_some_iff] at hx
  exact hx
 have hG:∀b,E.good w ρ b→E.good w ρ' b:=fun b hb=>⟨hb.1,hb.2.1,fun j y hj hy=>by
  obtain⟨k',_,h2⟩:=hback j y hj
  exact hb.2.2 k' y h2 hy⟩
 refine⟨ρ',h.keep,h.tsz,h.dfr.tr (fun b hb=>⟨hG b hb,rfl⟩),h.gl.tr (fun b hb=>⟨hG b hb,rfl⟩),fun k=>(h.fr k).map (fun b hb=>⟨hG b hb,rfl⟩) (ren_leaf hρ),?_,?_,?_,?_,?_⟩
 ·intro i o ho
  simp only[ST.ren] at ho
  split at ho
  ·rename_i k hk
   simp only[Option.map_eq_some_iff] at ho
   obtain⟨o1,ho1,rfl⟩:=ho
   exact(h.ob k o1 ho1).map hG (ren_leaf hρ) (by simp only[ρ',hk,Option.bind_some])
  ·cases ho
 ·intro i ho
  simp only[ST.ren] at ho
  split at ho
  ·rename_i k hk
   have ho:st.ob k=none:=by simpa using ho
   simp only[ρ',hk,Option.bind_some,h.no k ho]
  ·rename_i hk
   simp only[ρ',hk,Option.bind_none]
 ·intro i i' x x' b hi hi' hb hb'
  obtain⟨k,h1,h2⟩:=hback i x hi
  obtain⟨k',h1',h2'⟩:=hback i' x' hi'
  have:=h.dis k k' x x' b h2 h2' hb hb'
  subst this
  have e1:=posF_of hd h1
  rw[posF_of hd h1'] at e1
  exact(Option.some.inj e1).symm
 ·intro i x b hi hb
  obtain⟨k,_,h2⟩:=hback i x hi
  exact h.own k x b h2 hb
 ·intro i hi x hx
  simp only[ρ',hlt i hi,Option.bind_some]
  exact h.le i hi x hx
def RetM (E:Env) (T:TE) (rs:List ResultVar) (res:AV) (O':List Ob):Exit→ST→Prop:=fun e st=>(e=.normal∨e=.ret)∧∃st' x,Weak E st st'∧retF T st' rs=some x∧AvIs x res∧st'.ob=obL O'
theorem DoesM.mk {P:Program} {f:FuncId} {fn:Func} {c:Code} {args:List AV} {O O':List Ob} {res:AV} {T:TE} (md:Nat→Bool) (nx:Nat) (hT:TOk P T) (hf:P.funcs[f]?=some fn) (hb:fn.body=some c) (hnm:(fn.name== "runtime.NumGoroutine")=false)
  {nt:Nat} {rs:List ResultVar} (hnt:fn.ntmps=nt) (hrs:fn.results.toList=rs) (hle:Nat.ble args.length nt=true) (hO:Nat.ble O.length O'.length=true)
  (h:∀E:Env,TOk E.P T→E.P=P→E.N=O.length→E.rd=none→XK E [.code c] (RetM E T rs res O') ⟨argFr args,obL O,nx,nt,md⟩):DoesM P f args O res O':=by
 subst hnt hrs
 refine⟨⟨fn,hf,by rw[hb];rfl,hnm⟩,Nat.le_of_ble_eq_true hO,fun w G r vs hs hG hgl hm hr=>?_⟩
 have hle':=Nat.le_of_ble_eq_true hle
 have hsz:(vs++Array.replicate (fn.ntmps-vs.size) undef).size=fn.ntmps:=by simp;omega
 have h0:SatR (Env.at_ P w G O.length r) ⟨argFr args,obL O,nx,fn.ntmps,md⟩ {tmps:=vs++Array.replicate (fn.ntmps-vs.size) undef,defers:=[]} w r:=by
  refine⟨Keep.refl _ _,hsz,DfrOk.nil,hgl.tr (fun b hb=>⟨hG b hb,rfl⟩),fun k=>?_,hm.ob,hm.no,hm.dis,hm.own,hm.le⟩
  by_cases hk:k<args.length
  ·have hx:=List.getElem?_eq_getElem hk
   have h1:=hr k _ hx
   have hlt:k<vs.size:=by omega
   simp only[argFr_eq,hx,Option.getD_some]
   simpa[Array.getElem?_append_left hlt] using h1
  ·simp only[argFr_eq,List.getElem?_eq_none (Nat.le_of_not_lt hk),Option.getD_none]
   exact .junk
 refine(callsIn_wide (n:=0)).1 (callsIn_of_wp_marks hf hb trivial (wpIn_mono (h (Env.at_ P w G O.length r) hT rfl rfl rfl _ w ⟨_,h0⟩) ?_))
 rintro e a' w1 ⟨st0,hs0,he,st',x,hwk,hx,hxr,hob⟩
 obtain⟨ρ,hs1⟩:=hwk a' w1 hs0
 suffices hlv:LeavesInM Fence.wide 0 P fn a'.tmps (fun e w'=>∃v ρ,e=.returned v∧MemR (Env.at_ P w G O.length r) (obL O') w' ρ∧R w' ((Env.at_ P w G O.length r).good w' ρ) ρ res v) a'.defers .returning w1 by
  rcases he with rfl|rfl<;>exact hlv
 obtain⟨df,hdf,-⟩:=hs1.dfr
 obtain⟨ta,da⟩:=a'
 simp only at hdf
 subst hdf
 refine SatR.leaves df hs1 fun w' hs'=>?_
 obtain⟨v,h1,h2⟩:=retF_ok (E:=Env.at_ P w G O.length r) hT hs' hx
 have key:∃v,(results fn ta).run P w'=.ok v w'∧∃u ρ,Ending.returned v=.returned u∧MemR (Env.at_ P w G O.length r) (obL O') w' ρ∧R w' ((Env.at_ P w G O.length r).good w' ρ) ρ res u:=
  ⟨v,h1,v,ρ,rfl,hob▸hs'.mem,hxr.ok h2⟩
 exact key
def ViewIs (ob:Nat→Option Ob) (f:Nat→Option Nat):List Nat→List Ob→Prop
 |_,[]=>True
 |k::_,[o]=>ObIs1 ((ob k).map (Ob.map (renG f))) o
 |k::K,o::l=>ObIs1 ((ob k).map (Ob.map (renG f))) o∧ViewIs ob f K l
 |[],_::_=>False
theorem ViewIs.at_ {ob:Nat→Option Ob} {f:Nat→Option Nat}:∀{K:List Nat} {O:List Ob},ViewIs ob f K O→∀(i:Nat) (o:Ob),O[i]?=some o→∃k,K[i]?=some k∧ObIs1 ((ob k).map (Ob.map (renG f))) o
 |_,[],_,i,o,h=>by simp at h
 |k::K,[o1],h,i,o,ho=>by
  match i with
  |0=>simp at ho;subst ho;exact⟨k,rfl,h⟩
  |i+1=>simp at ho
 |k::K,o1::o2::l,h,i,o,ho=>by
  obtain⟨h1,h2⟩:ObIs1 ((ob k).map (Ob.map (renG f))) o1∧ViewIs ob f K (o2::l):=h
  match i with
  |0=>simp at ho;subst ho;exact⟨k,rfl,h1⟩
  |i+1=>
   obtain⟨k',h3,h4⟩:=ViewIs.at_ h2 i o (by simpa using ho)
   exact⟨k',by simpa using h3,h4⟩
 |[],o1::l,h,i,o,ho=>by
  cases l<;>exact h.elim
def backF (g:AV→AV):List Nat→List Ob→Option (List (Nat×Ob))
 |k::K,o::O=>match frcKO k (o.map g),backF g K O with
  |some p,some l=>some (p::l)
  |_,_=>none
 |[],[]=>some []
 |_,_=>none
theorem backF_ok {g:AV→AV}:∀{K:List Nat} {O:List Ob} {l:List (Nat×Ob)},backF g K O=some l→l.map (·.1)=K∧K.length=O.length∧∀(i k:Nat),nodupB K=true→K[i]?=some k→∀ob,putAll ob l k=(O[i]?).map (Ob.map g)
 |[],[],l,h=>by simp[backF] at h;subst h;exact⟨rfl,rfl,fun i k _ h=>by simp at h⟩
 |[],_::_,l,h=>by simp[backF] at h
 |_::_,[],l,h=>by simp[backF] at h
 |k::K,o::O,l,h=>by
  simp only[backF] at h
  split at h
  ·rename_i p l' h1 h2
   injection h with h
   subst h
   obtain⟨k',o'⟩:=p
   obtain⟨rfl,rfl⟩:=frcKO_eq h1
   obtain⟨h3,h4,h5⟩:=backF_ok h2
   refine⟨by simp[h3],by simp[h4],fun i kk hn hi ob=>?_⟩
   have hn':=hn
   simp only[nodupB,Bool.and_eq_true,Bool.not_eq_true'] at hn'
   simp only[putAll]
   match i with
   |0=>
    simp at hi
    subst hi
    simp[upd_same]
   |i+1=>
    simp at hi
    have hne:kk≠k':=fun e=>by
     subst e
     have:K.any (fun b=>Nat.beq b kk)=true:=List.any_eq_true.2 ⟨kk,List.mem_of_getElem? hi,by simp⟩
     rw[hn'.1] at this
     cases this
    rw[upd_other _ _ hne]
    simpa using h5 i kk hn'.2 hi ob
  ·cases h
mutual
def AV.bare:AV→Bool
 |.agg l=>AV.bareL l
 |.tup l=>AV.bareL l
 |.c _=>true
 |.junk=>true
 |.ptr _ _=>true
 |.mp _=>true
 |.vptr _ _ _ _ _=>true
 |.vec _ _=>true
 |.rptr _=>false
 |.rs _ _ _=>false
 |.fn _ l l'=>AV.bareL l&&AV.bareL l'
 |.gd _ _=>false
def AV.bareL:List AV→Bool
 |[]=>true
 |a::l=>AV.bare a&&AV.bareL l
end
theorem AV.bareL_at:∀{l:List AV} {i:Nat} {a:AV},AV.bareL l=true→l[i]?=some a→a.bare=true
 |[],i,a,_,h=>by simp at h
 |b::l,0,a,hl,h=>by simp at h;subst h;simp[AV.bareL] at hl;exact hl.1
 |b::l,i+1,a,hl,h=>by simp at h;simp[AV.bareL] at hl;exact AV.bareL_at hl.2 h
theorem R.map_bare {w w':World} {G G':Nat→Prop} {ρ:Rho} {a:AV} {v:Value} (h:R w G ρ a v):
  ∀{ρ':Rho} {g:AV→AV},a.bare=true→(∀x v,x.isName=true→R w G ρ x v→R w' G' ρ' (g x) v)→R w' G' ρ' (a.map g) v:=by
 induction h with
 |junk=>exact fun _ _=>.junk
 |c=>exact fun _ _=>.c
 |agg hs _ ih=>
  intro ρ' g hb hg
  refine .agg (by rw[AV.mapL_length];exact hs) fun i a h=>?_
  obtain⟨y,hy,rfl⟩:=AV.mapL_get h
  exact ih i y hy (AV.bareL_at (by simpa[AV.bare] using hb) hy) hg
 |tup hs _ ih=>
  intro ρ' g hb hg
  refine .tup (by rw[AV.mapL_length];exact hs) fun i a h=>?_
  obtain⟨y,hy,rfl⟩:=AV.mapL_get h
  exact ih i y hy (AV.bareL_at (by simpa[AV.bare] using hb) hy) hg
 |ptr hk=>exact fun _ hg=>hg _ _ rfl (.ptr hk)
 |mp hk=>exact fun _ hg=>hg _ _ rfl (.mp hk)
 |vptr hk hi=>exact fun _ hg=>hg _ _ rfl (.vptr hk hi)
 |vptrOld hk hs=>exact fun _ hg=>hg _ _ rfl (.vptrOld hk hs)
 |vec hk=>exact fun _ hg=>hg _ _ rfl (.vec hk)
 |vecOld hk hs=>exact fun _ hg=>hg _ _ rfl (.vecOld hk hs)
 |rptr=>intro _ _ hb;simp[AV.bare] at hb
 |rs=>intro _ _ hb;simp[AV.bare] at hb
 |fn hs _ hs' _ ih ih'=>
  intro ρ' g hb hg
  simp only[AV.bare,Bool.and_eq_true] at hb
  refine .fn (by rw[AV.mapL_length];exact hs) (fun i a h=>?_) (by rw[AV.mapL_length];exact hs') (fun i a h=>?_)
  ·obtain⟨y,hy,rfl⟩:=AV.mapL_get h
   exact ih i y hy (AV.bareL_at hb.1 hy) hg
  ·obtain⟨y,hy,rfl⟩:=AV.mapL_get h
   exact ih' i y hy (AV.bareL_at hb.2 hy) hg
 |gd=>intro _ _ hb;simp[AV.bare] at hb
def Ob.Bare:Ob→Prop
 |.cells _ cs=>AV.bareL cs=true
 |.vec _ _ _ n f=>∀i,i<n→AV.flatL (f i)=true
 |.mapo _ _ _ f _=>∀z,(f z).bare=true
 |.mapb _ _ _ f=>∀z,(f z).flat=true
 |.lrec _ _ cs=>AV.bareL cs=true
theorem ObOk.map_bare {w:World} {G G':Nat→Prop} {ρ ρ':Rho} {g:AV→AV} (hg:∀x v,x.isName=true→R w G ρ x v→R w G' ρ' (g x) v) {k k':Nat} {o:Ob} (hb:o.Bare) (h:ObOk w G ρ k o) (hk:ρ' k'=ρ k):ObOk w G' ρ' k' (o.map g):=by
 cases o with
 |cells t cs=>
  obtain⟨b,arr,hk',hh,hs,hr⟩:=h
  refine⟨b,arr,hk.trans hk',hh,by rw[AV.mapL_length];exact hs,fun i x hx=>?_⟩
  obtain⟨y,hy,rfl⟩:=AV.mapL_get hx
  exact(hr i y hy).map_bare (AV.bareL_at hb hy) hg
 |vec e sz s n f=>
  obtain⟨hv,xs,hk',hown,hf,hr⟩:=h
  exact⟨hv,xs,hk.trans hk',hown,hf,fun i j x hi hx=>(hr i j x hi hx).of_flat _ (AV.flatL_at (hb i hi) hx)⟩
 |mapo kk zv d f sn=>
  obtain⟨b,es,clock,hk',hh,hs,hr,hsn⟩:=h
  exact⟨b,es,clock,hk.trans hk',hh,hs,(fun z hz=>by
   obtain⟨r,h1,h2,h3⟩:=hr z hz
   exact⟨r,h1,h2,h3.map_bare (hb z) hg⟩),hsn⟩
 |mapb kk zv d f=>
  obtain⟨b,es,clock,hk',hh,hs,hr⟩:=h
  exact⟨b,es,clock,hk.trans hk',hh,hs,fun z hz=>by
   obtain⟨r,h1,h2,h3⟩:=hr z hz
   exact⟨r,h1,h2,h3.of_flat _ (hb z)⟩⟩
 |lrec mk b cs=>
  obtain⟨arr,hk',hh,hs,hr⟩:=h
  refine⟨arr,hk.trans hk',hh,by rw[AV.mapL_length];exact hs,fun i x hx=>?_⟩
  obtain⟨y,hy,rfl⟩:=AV.mapL_get hx
  exact(hr i y hy).map_bare (AV.bareL_at hb hy) hg
theorem SatR.calledX {C:Array Value→World→(Ending→World→Prop)→Prop} (hC:∀vs w R R',C vs w R→(∀e w',R e w'→R' e w')→C vs w R') (h:SatR E st a w ρ) {st1:ST} {ρ1:Rho} (h1:SatR E st1 a w ρ1) (hsub:∀k x,ρ1 k=some x→ρ k=some x) {args':List AV} {O O':List Ob} {res:AV} (hP:DoesX C E.P args' O res O') {K:List Nat} {obs:List (Nat×Ob)} (hbare:ρ1=ρ∨(res.bare=true∧∀o∈O',o.Bare)) (hd:nodupB K=true)
  (hv:ViewIs st1.ob (posF (K.take O.length)) (K.take O.length) O) (hnew:(K.drop O.length).all (fun k=>(st.ob k).isNone)=true) (hob:backF (renG (fun i=>K[i]?)) K O'=some obs)
  {vs:Array Value} (hsz:vs.size=args'.length) (hvs:∀(i:Nat) (y:AV),args'[i]?=some y→∃x,R w (E.good w ρ1) ρ1 x (vs.getD i undef)∧AvIs (x.map (renG (posF (K.take O.length)))) y)
  {next:Act→World→Prop} {Q':Exit→Act→World→Prop} {Q:Ending→World→Prop} (hQ:∀v w' ρ',MemR E (putAll st.ob obs) w' ρ'→Le ρ ρ'→(∀b,E.good w ρ b→E.good w' ρ' b∧w'.heap[b]?=w.heap[b]?)→R w' (E.good w' ρ') ρ' (res.map (renG (fun i=>K[i]?))) v→Q (.returned v) w'):C vs w Q:=by
 obtain⟨hlen,hP⟩:=hP
 obtain⟨hk1,hk2,hput⟩:=backF_ok hob
 have hput:=fun i k hi ob=>hput i k hd hi ob
 generalize hn:O.length=n at*
 let L:=K.take n
 have hLlen:n≤K.length:=by omega
 have hLd:nodupB L=true:=by
  have:∀(l:List Nat) (m:Nat),nodupB l=true→nodupB (l.take m)=true:=by
   intro l
   induction l with
   |nil=>intro m _;simp[nodupB]
   |cons a l ih=>
    intro m hm
    cases m with
    |zero=>simp[nodupB]
    |succ m=>
     simp only[nodupB,Bool.and_eq_true,Bool.not_eq_true',List.take_succ_cons] at hm ⊢
     refine⟨?_,ih m hm.2⟩
     cases hb:(List.take m l).any (fun b=>Nat.beq b a) with
     |false=>rfl
     |true=>
      obtain⟨b,h1,h2⟩:=List.any_eq_true.1 hb
      have:l.any (fun b=>Nat.beq b a)=true:=List.any_eq_true.2 ⟨b,List.mem_of_mem_take h1,h2⟩
      rw[hm.1] at this
      cases this
  exact this K n hd
 have hLat:∀i,i<n→L[i]?=K[i]?:=fun i hi=>by simp[L,hi]
 have hLnone:∀i,n≤i→L[i]?=none:=fun i hi=>by simp[L];omega
 have hLmem:∀i k,L[i]?=some k→i<n∧K[i]?=some k:=fun i k hi=>by
  by_cases hlt:i<n
  ·exact⟨hlt,(hLat i hlt)▸hi⟩
  ·rw[hLnone i (by omega)] at hi;cases hi
 -- the objects as the callee sees them
 let r:Rho:=fun i=>(L[i]?).bind ρ1
 have hr:∀i x,r i=some x→∃k,L[i]?=some k∧ρ1 k=some x:=by
  intro i x hx
  simp only[r,Option.bind_eq_some_iff] at hx
  exact hx
 have hρr:∀k x,ρ1 k=some x→posF L k=none∨∃i,posF L k=some i∧r i=some x:=by
  intro k x hx
  cases hp:posF L k with
  |none=>exact .inl rfl
  |some i=>exact .inr ⟨i,rfl,by simp only[r,posF_some hp,Option.bind_some,hx]⟩
 have hown:∀b,Owned r b→∃(k:Nat) (x:RV) (i:Nat),L[i]?=some k∧ρ k=some x∧x.block=some b:=by
  rintro b ⟨i,x,hi,hb⟩
  obtain⟨k,h1,h2⟩:=hr i x hi
  exact⟨k,x,i,h1,hsub k x h2,hb⟩
 have hG1:∀b,E.good w ρ1 b→(Env.at_ E.P w (E.good w ρ1) n r).good w r b:=by
  intro b hb
  refine⟨.inl hb,hb.2.1,fun i x hi hx=>?_⟩
  obtain⟨k,_,h2⟩:=hr i x hi
  exact hb.2.2 k x h2 hx
 have hm:MemR (Env.at_ E.P w (E.good w ρ1) n r) (obL O) w r:=by
  refine⟨Keep.refl _ _,?_,?_,?_,?_,?_⟩
  ·intro i o ho
   obtain⟨k,hk1,h2⟩:=hv.at_ i o ho
   cases hk:st1.ob k with
   |none=>rw[hk] at h2;exact h2.elim
   |some o1=>
    rw[hk] at h2
    exact ObIs1.ok h2 ((h1.ob k o1 hk).map hG1 (ren_leaf hρr) (by simp only[r,show L[i]?=some k from hk1,Option.bind_some]))
  ·intro i ho
   have hi:n≤i:=by
    have:O.length≤i:=by simpa[obL] using ho
    omega
   simp only[r,hLnone i hi,Option.bind_none]
  ·intro i i' x x' b hi hi' hb hb'
   obtain⟨k,g1,h2⟩:=hr i x hi
   obtain⟨k',h1',h2'⟩:=hr i' x' hi'
   have:=h1.dis k k' x x' b h2 h2' hb hb'
   subst this
   have e1:=posF_of hLd g1
   have e2:=posF_of hLd h1'
   rw[e1] at e2
   exact Option.some.inj e2
  ·intro i x b hi hb
   exact .inr ⟨i,x,hi,hb⟩
  ·intro i _ x hx
   exact .inl hx
 refine hC _ _ _ _ (hP w (E.good w ρ1) r vs hsz hG1 h1.gl hm (fun i y hy=>?_)) ?_
 ·obtain⟨x,hx,hxy⟩:=hvs i y hy
  exact hxy.ok (hx.map (fun b hb=>⟨hG1 b hb,rfl⟩) (ren_leaf hρr))
 rintro e w' ⟨v,r',rfl,hm',hres⟩
 -- the caller's view of what is left
 let ρ':Rho:=fun j=>match posF K j with
  |some i=>r' i
  |none=>ρ j
 have hlt':∀i x,r' i=some x→i<K.length:=by
  intro i x hx
  by_cases hi:i<O'.length
  ·omega
  ·have:=hm'.no i (by simp[obL];omega)
   rw[this] at hx;cases hx
 have hKi:∀i x,r' i=some x→∃j,K[i]?=some j∧posF K j=some i∧ρ' j=some x:=by
  intro i x hx
  have hi:=hlt' i x hx
  have h1:K[i]?=some K[i]:=List.getElem?_eq_getElem hi
  have h2:=posF_of hd h1
  exact⟨_,h1,h2,by simp only[ρ',h2,hx]⟩
 have hcase:∀j x,ρ' j=some x→(∃i,posF K j=some i∧r' i=some x)∨(posF K j=none∧ρ j=some x):=by
  intro j x hx
  simp only[ρ'] at hx
  split at hx
  ·rename_i i hi;exact .inl ⟨i,hi,hx⟩
  ·rename_i hi;exact .inr ⟨hi,hx⟩
 have hne:∀j i,posF K j=some i→n≤i→ρ j=none:=by
  intro j i hj hi
  have h1:=posF_some hj
  have hmem:j∈K.drop n:=by
   refine List.mem_of_getElem? (i:=i-n) ?_
   rw[List.getElem?_drop,show n+(i-n)=i by omega]
   exact h1
  have:=List.all_eq_true.1 hnew j hmem
  exact h.no j (by simpa using this)
 have hin:∀j i,posF K j=some i→i<n→r i=ρ j∧posF L j=some i:=by
  intro j i hj hi
  have h1:=posF_some hj
  have h2:L[i]?=some j:=(hLat i hi).trans h1
  have h3:r i=ρ1 j:=by simp only[r,h2,Option.bind_some]
  refine⟨?_,posF_of hLd h2⟩
  have hlt:i<O.length:=by omega
  have hoi:=hm.ob i _ (List.getElem?_eq_getElem hlt)
  have hsome:∃y,r i=some y:=by
   cases hoo:O[i] with
   |cells t cs=>rw[hoo] at hoi;obtain⟨g,arr,hg,_⟩:=hoi;exact⟨_,hg⟩
   |vec e sz s n f=>rw[hoo] at hoi;obtain⟨g,arr,hg,_⟩:=hoi;exact⟨_,hg⟩
   |mapo kk zv d f sn=>rw[hoo] at hoi;obtain⟨g,es,clock,hg,_⟩:=hoi;exact⟨_,hg⟩
   |mapb kk zv d f=>rw[hoo] at hoi;obtain⟨g,es,clock,hg,_⟩:=hoi;exact⟨_,hg⟩
   |lrec mk b cs=>rw[hoo] at hoi;obtain⟨arr,hg,_⟩:=hoi;exact⟨_,hg⟩
  obtain⟨y,hy⟩:=hsome
  rw[hy,hsub j y (h3▸hy)]
 have hle:Le ρ ρ':=by
  intro j x hx
  simp only[ρ']
  cases hp:posF K j with
  |none=>exact .inl hx
  |some i=>
   by_cases hi:i<n
   ·obtain⟨h1,_⟩:=hin j i hp hi
    exact hm'.le i (by exact hi) x (h1.trans hx)
   ·rw[hne j i hp (by omega)] at hx;cases hx
 have hnotown:∀b j x,ρ j=some x→x.block=some b→posF K j=none→¬Owned r b:=by
  intro b j x hj hb hp ho
  obtain⟨k,y,i,h1,h2,h3⟩:=hown b ho
  have:=h.dis j k x y b hj h2 hb h3
  subst this
  obtain⟨_,h4⟩:=hLmem i j h1
  rw[posF_of hd h4] at hp
  cases hp
 have hblk:∀b,b<w.heap.size→¬Owned r b→w'.heap[b]?=w.heap[b]?:=fun b h1 h2=>hm'.keep.block b h1 h2
 have hG2:∀b,E.good w ρ b→E.good w' ρ' b∧w'.heap[b]?=w.heap[b]?:=by
  intro b hb
  have hno:¬Owned r b:=fun ho=>by
   obtain⟨k,y,i,_,h2,h3⟩:=hown b ho
   exact hb.2.2 k y h2 h3
  refine⟨⟨hb.1,Nat.lt_of_lt_of_le hb.2.1 hm'.keep.size,fun j x hj hx=>?_⟩,hblk b hb.2.1 hno⟩
  rcases hcase j x hj with⟨i,_,h2⟩|⟨_,h2⟩
  ·rcases hm'.own i x b h2 hx with h3|h3
   ·exact absurd hb.2.1 (Nat.not_lt.2 h3)
   ·exact hno h3
  ·exact hb.2.2 j x h2 hx
 have hE0:∀b,Owned r b→E.w0.heap.size≤b∨E.M b:=fun b ho=>by
  obtain⟨k,y,i,_,h2,h3⟩:=hown b ho
  exact h.own k y b h2 h3
 have hG3:ρ1=ρ→∀b,(Env.at_ E.P w (E.good w ρ1) n r).good w' r' b→E.good w' ρ' b:=by
  rintro heq b ⟨h1,h2,h3⟩
  have h1:E.good w ρ b∨w.heap.size≤b∨Owned r b:=by rw[←heq];exact h1
  refine⟨?_,h2,fun j x hj hx=>?_⟩
  ·rcases h1 with h1|h1|h1
   ·exact h1.1
   ·exact .inr (.inl (Nat.le_trans h.keep.size h1))
   ·rcases hE0 b h1 with h4|h4
    ·exact .inr (.inl h4)
    ·exact .inr (.inr h4)
  ·rcases hcase j x hj with⟨i,_,h4⟩|⟨hp,h4⟩
   ·exact h3 i x h4 hx
   ·rcases h1 with h1|h1|h1
    ·exact h1.2.2 j x h4 hx
    ·exact absurd (h.lt h4 hx) (Nat.not_lt.2 h1)
    ·exact hnotown b j x h4 hx hp h1
 have hleaf:∀x v,x.isName=true→R w' ((Env.at_ E.P w (E.good w ρ1) n r).good w' r') r' x v→R w' (E.good w' ρ') ρ' (renG (fun i=>K[i]?) x) v:=
  ren_leaf fun i x hx=>by
   obtain⟨j,h1,_,h3⟩:=hKi i x hx
   exact .inr ⟨j,h1,h3⟩
 have hout:R w' (E.good w' ρ') ρ' (res.map (renG (fun i=>K[i]?))) v:=by
  rcases hbare with heq|⟨hb1,_⟩
  ·exact hres.map (fun b hb=>⟨hG3 heq b hb,rfl⟩) hleaf
  ·exact hres.map_bare hb1 hleaf
 refine hQ v w' ρ' ⟨?_,?_,?_,?_,?_,?_⟩ hle hG2 hout
 ·refine⟨hm'.keep.os.trans h.keep.os,hm'.keep.tape.trans h.keep.tape,hm'.keep.output.trans h.keep.output,Nat.le_trans h.keep.size hm'.keep.size,fun b hb hM=>?_,fun g=>Nat.le_trans (h.keep.drawn g) (hm'.keep.drawn g)⟩
  have hno:¬Owned r b:=fun ho=>by
   rcases hE0 b ho with h1|h1
   ·omega
   ·exact hM h1
  exact(hblk b (Nat.lt_of_lt_of_le hb h.keep.size) hno).trans (h.keep.block b hb hM)
 ·intro j o ho
  cases hp:posF K j with
  |some i=>
   rw[hput i j (posF_some hp)] at ho
   simp only[Option.map_eq_some_iff] at ho
   obtain⟨o1,ho1,rfl⟩:=ho
   have hmem:o1∈O':=List.mem_of_getElem? ho1
   rcases hbare with heq|⟨_,hb2⟩
   ·exact(hm'.ob i o1 ho1).map (hG3 heq) hleaf (by simp only[ρ',hp])
   ·exact(hm'.ob i o1 ho1).map_bare hleaf (hb2 o1 hmem) (by simp only[ρ',hp])
  |none=>
   have hj:j∉obs.map (·.1):=by rw[hk1];exact posF_none hp
   rw[putAll_not hj] at ho
   refine(h.ob j o ho).tr hG2 hle (by simp only[ρ',hp]) fun x b hx hb=>?_
   exact hblk b (h.lt hx hb) (hnotown b j x hx hb hp)
 ·intro j ho
  cases hp:posF K j with
  |some i=>
   rw[hput i j (posF_some hp)] at ho
   have ho:O'[i]?=none:=by simpa using ho
   simp only[ρ',hp]
   exact hm'.no i ho
  |none=>
   have hj:j∉obs.map (·.1):=by rw[hk1];exact posF_none hp
   rw[putAll_not hj] at ho
   simp only[ρ',hp]
   exact h.no j ho
 ·intro j j' x x' b hj hj' hb hb'
  rcases hcase j x hj with⟨i,h1,h2⟩|⟨h1,h2⟩<;>rcases hcase j' x' hj' with⟨i',h1',h2'⟩|⟨h1',h2'⟩
  ·have:=hm'.dis i i' x x' b h2 h2' hb hb'
   subst this
   have e1:=posF_some h1
   rw[posF_some h1'] at e1
   exact(Option.some.inj e1).symm
  ·rcases hm'.own i x b h2 hb with h3|h3
   ·exact absurd (h.lt h2' hb') (Nat.not_lt.2 h3)
   ·exact absurd h3 (hnotown b j' x' h2' hb' h1')
  ·rcases hm'.own i' x' b h2' hb' with h3|h3
   ·exact absurd (h.lt h2 hb) (Nat.not_lt.2 h3)
   ·exact absurd h3 (hnotown b j x h2 hb h1)
  ·exact h.dis j j' x x' b h2 h2' hb hb'
 ·intro j x b hj hb
  rcases hcase j x hj with⟨i,h1,h2⟩|⟨h1,h2⟩
  ·rcases hm'.own i x b h2 hb with h3|h3
   ·exact .inl (Nat.le_trans h.keep.size h3)
   ·exact hE0 b h3
  ·exact h.own j x b h2 hb
 ·intro j hj x hx
  rcases h.le j hj x hx with h1|⟨s,v1,s',v',rfl,h2,h3⟩
  ·exact hle j x h1
  ·rcases hle j _ h2 with h4|⟨s1,u1,s2,u2,h4,h5,h6⟩
   ·exact .inr ⟨s,v1,s',v',rfl,h4,h3⟩
   ·injection h4 with h7 h8
    subst h7
    exact .inr ⟨s,v1,s2,u2,rfl,h5,Nat.lt_trans h3 h6⟩
theorem SatR.calledMB (h:SatR E st a w ρ) {st1:ST} {ρ1:Rho} (h1:SatR E st1 a w ρ1) (hsub:∀k x,ρ1 k=some x→ρ k=some x) {f:Nat} {args':List AV} {O O':List Ob} {res:AV} (hP:DoesM E.P f args' O res O') {K:List Nat} {obs:List (Nat×Ob)} (hbare:ρ1=ρ∨(res.bare=true∧∀o∈O',o.Bare)) (hd:nodupB K=true)
  (hv:ViewIs st1.ob (posF (K.take O.length)) (K.take O.length) O) (hnew:(K.drop O.length).all (fun k=>(st.ob k).isNone)=true) (hob:backF (renG (fun i=>K[i]?)) K O'=some obs)
  {vs:Array Value} (hsz:vs.size=args'.length) (hvs:∀(i:Nat) (y:AV),args'[i]?=some y→∃x,R w (E.good w ρ1) ρ1 x (vs.getD i undef)∧AvIs (x.map (renG (posF (K.take O.length)))) y)
  {next:Act→World→Prop} {Q':Exit→Act→World→Prop} {Q:Ending→World→Prop} (hQ:∀v w' ρ',MemR E (putAll st.ob obs) w' ρ'→Le ρ ρ'→(∀b,E.good w ρ b→E.good w' ρ' b∧w'.heap[b]?=w.heap[b]?)→R w' (E.good w' ρ') ρ' (res.map (renG (fun i=>K[i]?))) v→Q (.returned v) w'):Calls E.P f vs w Q:=
 SatR.calledX (C:=fun vs w R=>Calls E.P f vs w R) (fun _ _ _ _ hc hr=>hc.mono hr) h h1 hsub hP.2 hbare hd hv hnew hob hsz hvs (next:=next) (Q':=Q') hQ
theorem SatR.calledM (h:SatR E st a w ρ) {f:Nat} {args':List AV} {O O':List Ob} {res:AV} (hP:DoesM E.P f args' O res O') {K:List Nat} {obs:List (Nat×Ob)} (hd:nodupB K=true)
  (hv:ViewIs st.ob (posF (K.take O.length)) (K.take O.length) O) (hnew:(K.drop O.length).all (fun k=>(st.ob k).isNone)=true) (hob:backF (renG (fun i=>K[i]?)) K O'=some obs)
  {vs:Array Value} (hsz:vs.size=args'.length) (hvs:∀(i:Nat) (y:AV),args'[i]?=some y→∃x,R w (E.good w ρ) ρ x (vs.getD i undef)∧AvIs (x.map (renG (posF (K.take O.length)))) y)
  {next:Act→World→Prop} {Q':Exit→Act→World→Prop} {Q:Ending→World→Prop} (hQ:∀v w' ρ',MemR E (putAll st.ob obs) w' ρ'→Le ρ ρ'→(∀b,E.good w ρ b→E.good w' ρ' b∧w'.heap[b]?=w.heap[b]?)→R w' (E.good w' ρ') ρ' (res.map (renG (fun i=>K[i]?))) v→Q (.returned v) w'):Calls E.P f vs w Q:=
 h.calledMB h (fun _ _ h=>h) hP (.inl rfl) hd hv hnew hob hsz hvs (next:=next) (Q':=Q') hQ
end
end Go.Eng
end
section
namespace Go.Eng
section
variable {E:Env} {st:ST} {a:Act} {w:World} {ρ:Rho} {T:TE} {Q:Exit→ST→Prop} {k:List It}
theorem mapL_at {g:AV→AV}:∀{l:List AV} {i:Nat} {x:AV},l[i]?=some x→(AV.mapL g l)[i]?=some (x.map g)
 |[],i,x,h=>by simp at h
 |a::l,0,x,h=>by simp at h;subst h;simp[AV.mapL]
 |a::l,i+1,x,h=>by simp at h;simpa[AV.mapL] using mapL_at h
theorem callM_wp (h:SatR E st a w ρ) {o:Oper} {f:Nat} {args args1 args':List AV} {res res1:AV} {O O':List Ob} {K:List Nat} {obs:List (Nat×Ob)} (hc:callF st o.op=some (f,args)) {gc:Option Bool} (hgc:∀g,gc=some g→g=true) (ho:∀p∈o.op.operands.toList.flatMap (fun x=>oblG gc (st.ev x)),p)
  (hdst:dstOk st o=true) (hP:DoesM E.P f args' O res O') (hfa:frcL (AV.mapL (renG (posF (K.take O.length))) args)=some args1) (ha:AvIsL args1 args') (hd:nodupB K=true)
  (hv:ViewIs st.ob (posF (K.take O.length)) (K.take O.length) O) (hnew:(K.drop O.length).all (fun k=>(st.ob k).isNone)=true) (hob:backF (renG (fun i=>K[i]?)) K O'=some obs) (hres:frc (res.map (renG (fun i=>K[i]?)))=some res1)
  {Q:Exit→Act→World→Prop}:o.wpIn (FW E.rd) 0 E.P a w (fun a' w'=>Sat E (st.appM o.dst ⟨res1,obs⟩) a' w') Q:=by
 obtain⟨vs,h1,h2,h3⟩:=call_run h hc hgc ho hP.1
 have hfa:=frcL_eq hfa
 have hres:=frc_eq hres
 subst hfa hres
 obtain⟨hl,hat⟩:=ha.at
 rw[AV.mapL_length] at hl
 refine wpIn_run h1 (fun _ e=>by cases e) ⟨(fun e=>by cases e),Calls.fw ?_ _ _⟩
 refine h.calledM hP hd hv hnew hob (by omega) (fun i y hy=>?_) (next:=fun _ _=>True) (Q':=fun _ _ _=>True) fun v w' ρ' hm hle hG hr=>?_
 ·have hlt:i<args.length:=by
   have:=(List.getElem?_eq_some_iff.1 hy).1
   omega
  have hx:=List.getElem?_eq_getElem hlt
  exact⟨_,h3 i _ hx,hat i _ y (mapL_at hx) hy⟩
 ·have h0:SatR E {st with ob:=putAll st.ob obs} a w' ρ':=⟨hm.keep,h.tsz,h.dfr.tr hG,h.gl.tr hG,fun k=>(h.fr k).tr hG _ hle,hm.ob,hm.no,hm.dis,hm.own,hm.le⟩
  refine⟨ρ',?_⟩
  have hdl:=dstOk_lt hdst
  cases hod:o.dst with
  |none=>
   exact h0
  |some d=>exact h0.put (hdl d hod) hr
theorem StepTo.callM {ops:Array Oper} {o:Oper} {f:Nat} {args args1 args':List AV} {res res1:AV} {O O':List Ob} {K:List Nat} {obs:List (Nat×Ob)} (hc:callF st o.op=some (f,args)) (hg:o.guard=none) (hdst:dstOk st o=true) (ho:AllP (o.op.operands.toList.flatMap (fun x=>oblG none (st.ev x))))
  (hP:DoesM E.P f args' O res O') (hfa:frcL (AV.mapL (renG (posF (K.take O.length))) args)=some args1) (ha:AvIsL args1 args') (hd:nodupB K=true)
  (hv:ViewIs st.ob (posF (K.take O.length)) (K.take O.length) O) (hnew:(K.drop O.length).all (fun k=>(st.ob k).isNone)=true) (hob:backF (renG (fun i=>K[i]?)) K O'=some obs) (hres:frc (res.map (renG (fun i=>K[i]?)))=some res1):
  StepTo E ops o st (st.appM o.dst ⟨res1,obs⟩):=by
 intro a w ⟨ρ,h⟩ Q
 rw[if_pos (by simp[Region.wanted,hg])]
 exact callM_wp h hc (fun g e=>by cases e) (AllP.mem ho) hdst hP hfa ha hd hv hnew hob hres
theorem StepTo.callMG {ops:Array Oper} {o:Oper} {j f:Nat} {pol g:Bool} {args args1 args':List AV} {res res1:AV} {O O':List Ob} {K:List Nat} {obs:List (Nat×Ob)} (hc:callF st o.op=some (f,args)) (hg:o.guard=some (j,pol)) (hgv:gval st ops.toList j pol=some g) (hgt:g=true) (hdst:dstOk st o=true) (hda:ops.toList.all (dstOk st)=true)
  (ho:AllP (o.op.operands.toList.flatMap (fun x=>oblG (some g) (st.ev x))))
  (hP:DoesM E.P f args' O res O') (hfa:frcL (AV.mapL (renG (posF (K.take O.length))) args)=some args1) (ha:AvIsL args1 args') (hd:nodupB K=true)
  (hv:ViewIs st.ob (posF (K.take O.length)) (K.take O.length) O) (hnew:(K.drop O.length).all (fun k=>(st.ob k).isNone)=true) (hob:backF (renG (fun i=>K[i]?)) K O'=some obs) (hres:frc (res.map (renG (fun i=>K[i]?)))=some res1):
  StepTo E ops o st (st.appM o.dst ⟨res1,obs⟩):=by
 intro a w ⟨ρ,h⟩ Q
 have hwv:Region.wanted o (yielded ops a.tmps)=g:=by
  have:=gval_ok h hgv (fun o' d h1 h2=>dstOk_lt (List.all_eq_true.1 hda o' (Array.mem_toList_iff.2 (Array.mem_of_getElem? h1))) d h2)
  simp only[Region.wanted,hg,this]
 rw[if_pos (hwv.trans hgt)]
 exact callM_wp h hc (fun g' e=>by injection e with e;exact e▸hgt) (AllP.mem ho) hdst hP hfa ha hd hv hnew hob hres
theorem StepTo.skip {ops:Array Oper} {o:Oper} {j:Nat} {pol g:Bool} (x:AV) (hg:o.guard=some (j,pol)) (hgv:gval st ops.toList j pol=some g) (hgt:g=false) (hdst:dstOk st o=true) (hda:ops.toList.all (dstOk st)=true):StepTo E ops o st (st.appM o.dst ⟨.gd false x,[]⟩):=by
 intro a w ⟨ρ,h⟩ Q
 have hwv:Region.wanted o (yielded ops a.tmps)=g:=by
  have:=gval_ok h hgv (fun o' d h1 h2=>dstOk_lt (List.all_eq_true.1 hda o' (Array.mem_toList_iff.2 (Array.mem_of_getElem? h1))) d h2)
  simp only[Region.wanted,hg,this]
 rw[if_neg (by rw[hwv,hgt];simp)]
 exact⟨ρ,SatR.put_app (eff:=⟨.gd false x,none⟩) (dst:=o.dst) h (dstOk_lt hdst) (.gd (fun e=>by cases e) fun _=>rfl)⟩
theorem callF_congr {s':ST} {o:Oper} (hev:∀x∈o.op.operands,s'.ev x=st.ev x):callF s' o.op=callF st o.op:=by
 obtain⟨dst,op,type,pos,after,guard⟩:=o
 simp only at hev ⊢
 unfold callF
 split
 ·rename_i c
  obtain⟨callee,cargs,tys⟩:=c
  simp only
  split
  ·rename_i fo
   have hm:cargs.toList.map (fun x=>strip (s'.ev x))=cargs.toList.map (fun x=>strip (st.ev x)):=List.map_congr_left fun x hx=>by
    simp only[hev x (by simp[Op.operands,Call.operands];exact .inr (by simpa using hx))]
   rw[hev fo (by simp[Op.operands,Call.operands]),hm]
  ·rfl
 ·rfl
theorem obl_congr {s':ST} {o:Oper} {gc:Option Bool} (hev:∀x∈o.op.operands,s'.ev x=st.ev x):o.op.operands.toList.flatMap (fun x=>oblG gc (s'.ev x))=o.op.operands.toList.flatMap (fun x=>oblG gc (st.ev x)):=by
 simp only[List.flatMap]
 congr 1
 exact List.map_congr_left fun x hx=>by simp only[hev x (by simpa using hx)]
theorem ViewIs.congr {ob ob':Nat→Option Ob} {f:Nat→Option Nat}:∀{K:List Nat} {O:List Ob},(∀k∈K,ob' k=ob k)→ViewIs ob f K O→ViewIs ob' f K O
 |_,[],_,h=>by cases ‹List Nat›<;>trivial
 |k::K,[o1],hk,h=>by
  show ObIs1 _ _
  rw[hk k (by simp)]
  exact h
 |k::K,o1::o2::l,hk,h=>by
  obtain⟨h1,h2⟩:ObIs1 ((ob k).map (Ob.map (renG f))) o1∧ViewIs ob f K (o2::l):=h
  refine⟨by rw[hk k (by simp)];exact h1,ViewIs.congr (fun k hk'=>hk k (by simp[hk'])) h2⟩
 |[],o1::l,_,h=>by cases l<;>exact h.elim
def fpK (l:List Oper) (o:Oper) (K:List Nat):List Nat×List Nat:=
 (o.op.operands.toList.flatMap slotOf++(match o.guard with
  |some (j,_)=>(match l[j]? with
   |some o'=>o'.dst.toList
   |none=>[])
  |none=>[]),K)
theorem ev_agreeK {l:List Oper} {s':ST} {o:Oper} {K:List Nat} (h:agree (fpK l o K) st s'):∀x∈o.op.operands,s'.ev x=st.ev x:=by
 intro x hx
 cases x with
 |tmp t=>exact h.2.2.2.1 t (List.mem_append_left _ (List.mem_flatMap.2 ⟨.tmp t,by simpa using hx,by simp[slotOf]⟩))
 |_=>rfl
theorem LocalM.callM {ops:Array Oper} {o:Oper} {f:Nat} {args args1 args':List AV} {res res1:AV} {O O':List Ob} {K:List Nat} {obs:List (Nat×Ob)} (hc:callF st o.op=some (f,args)) (hg:o.guard=none) (hdst:dstOk st o=true) (ho:AllP (o.op.operands.toList.flatMap (fun x=>oblG none (st.ev x))))
  (hP:DoesM E.P f args' O res O') (hfa:frcL (AV.mapL (renG (posF (K.take O.length))) args)=some args1) (ha:AvIsL args1 args') (hd:nodupB K=true)
  (hv:ViewIs st.ob (posF (K.take O.length)) (K.take O.length) O) (hnew:(K.drop O.length).all (fun k=>(st.ob k).isNone)=true) (hob:backF (renG (fun i=>K[i]?)) K O'=some obs) (hres:frc (res.map (renG (fun i=>K[i]?)))=some res1):
  LocalM E ops o st ⟨res1,obs⟩ (fpK ops.toList o K):=by
 intro s' hag
 have hev:=ev_agreeK hag
 have hK:∀k∈K,s'.ob k=st.ob k:=fun k hk=>hag.2.2.2.2 k hk
 refine StepTo.callM ((callF_congr hev).trans hc) hg (by simpa[dstOk,hag.2.1] using hdst) (by rw[obl_congr hev];exact ho) hP hfa ha hd (hv.congr fun k hk=>hK k (List.mem_of_mem_take hk)) ?_ hob hres
 rw[←hnew]
 exact all_congr fun k hk=>by rw[hK k (List.mem_of_mem_drop hk)]
end
section
variable {E:Env} {Q:Exit→ST→Prop} {ops:Array Oper} {o:Oper} {rest:List Oper} {f d:Nat} {args args1 args':List AV} {res res1:AV} {O O':List Ob} {K:List Nat} {obs:List (Nat×Ob)} {fr:Nat→AV} {ob:Nat→Option Ob} {nx nt:Nat} {md:Nat→Bool} {P:Program} {k:List It} {tr0:List (EffM×(List Nat×List Nat))}
theorem XL.callM (K:List Nat) (hE:E.P=P) (hc:callF ⟨fr,ob,nx,nt,md⟩ o.op=some (f,args)) (hg:o.guard=none) (hds:o.dst=some d) (hdl:Nat.blt d nt=true) (ho:AllP (o.op.operands.toList.flatMap (fun x=>oblG none (ST.ev ⟨fr,ob,nx,nt,md⟩ x))))
  (hP:DoesM P f args' O res O') (hfa:frcL (AV.mapL (renG (posF (K.take O.length))) args)=some args1) (ha:AvIsL args1 args') (hd:nodupB K=true)
  (hv:ViewIs ob (posF (K.take O.length)) (K.take O.length) O) (hnew:(K.drop O.length).all (fun k=>(ob k).isNone)=true) (hob:backF (renG (fun i=>K[i]?)) K O'=some obs) (hres:frc (res.map (renG (fun i=>K[i]?)))=some res1)
  (h:XL E ops Q rest ⟨upd fr d res1,putAll ob obs,nx,nt,md⟩):XL E ops Q (o::rest) ⟨fr,ob,nx,nt,md⟩:=by
 refine XL.step (StepTo.callM hc hg (by simp[dstOk,hds,hdl]) ho (hE▸hP) hfa ha hd hv hnew hob hres) ?_
 rw[hds];exact h
theorem XD.callM (K:List Nat) (hE:E.P=P) (hc:callF ⟨fr,ob,nx,nt,md⟩ o.op=some (f,args)) (hg:o.guard=none) (hds:o.dst=some d) (hdl:Nat.blt d nt=true) (ho:AllP (o.op.operands.toList.flatMap (fun x=>oblG none (ST.ev ⟨fr,ob,nx,nt,md⟩ x))))
  (hP:DoesM P f args' O res O') (hfa:frcL (AV.mapL (renG (posF (K.take O.length))) args)=some args1) (ha:AvIsL args1 args') (hd:nodupB K=true)
  (hv:ViewIs ob (posF (K.take O.length)) (K.take O.length) O) (hnew:(K.drop O.length).all (fun k=>(ob k).isNone)=true) (hob:backF (renG (fun i=>K[i]?)) K O'=some obs) (hres:frc (res.map (renG (fun i=>K[i]?)))=some res1)
  (h:XD E ops Q k (tr0++[(⟨res1,obs⟩,fpK ops.toList o K)]) rest ⟨upd fr d res1,putAll ob obs,nx,nt,md⟩):XD E ops Q k tr0 (o::rest) ⟨fr,ob,nx,nt,md⟩:=by
 refine XD.stepM (LocalM.callM hc hg (by simp[dstOk,hds,hdl]) ho (hE▸hP) hfa ha hd hv hnew hob hres) ?_
 rw[hds];exact h
theorem XL.callMG {j:Nat} {pol g:Bool} (K:List Nat) (x:AV) (hE:E.P=P) (hc:callF ⟨fr,ob,nx,nt,md⟩ o.op=some (f,args)) (hg:o.guard=some (j,pol)) (hgv:gval ⟨fr,ob,nx,nt,md⟩ ops.toList j pol=some g) (hds:o.dst=some d) (hdl:Nat.blt d nt=true) (hda:ops.toList.all (dstOk ⟨fun _=>.junk,fun _=>none,nx,nt,md⟩)=true)
  (hf:g=false→XL E ops Q rest ⟨upd fr d (.gd false x),ob,nx,nt,md⟩)
  {obl':List Prop} (hfo:frcP (o.op.operands.toList.flatMap (fun x=>oblG (some g) (ST.ev ⟨fr,ob,nx,nt,md⟩ x)))=some obl') (ho:g=true→AllP obl')
  (hP:g=true→DoesM P f args' O res O') (hfa:frcL (AV.mapL (renG (posF (K.take O.length))) args)=some args1) (ha:AvIsL args1 args') (hd:nodupB K=true)
  (hv:g=true→ViewIs ob (posF (K.take O.length)) (K.take O.length) O) (hnew:(K.drop O.length).all (fun k=>(ob k).isNone)=true) (hob:backF (renG (fun i=>K[i]?)) K O'=some obs) (hres:frc (res.map (renG (fun i=>K[i]?)))=some res1)
  (h:g=true→XL E ops Q rest ⟨upd fr d res1,putAll ob obs,nx,nt,md⟩):XL E ops Q (o::rest) ⟨fr,ob,nx,nt,md⟩:=by
 cases hgb:g with
 |false=>
  refine XL.step (StepTo.skip x hg hgv hgb (by simp[dstOk,hds,hdl]) hda) ?_
  rw[hds];exact hf hgb
 |true=>
  refine XL.step (StepTo.callMG hc hg hgv hgb (by simp[dstOk,hds,hdl]) hda (frcP_eq hfo▸ho hgb) (hE▸hP hgb) hfa ha hd (hv hgb) hnew hob hres) ?_
  rw[hds];exact h hgb
end
def obsF (ob:Nat→Option Ob) (g:AV→AV):List Nat→Option (List Ob)
 |[]=>some []
 |k::K=>match ob k with
  |some o=>(match frcO (o.map g),obsF ob g K with
   |some o',some l=>some (o'::l)
   |_,_=>none)
  |none=>none
theorem obsF_ok {ob:Nat→Option Ob} {g:AV→AV}:∀{K:List Nat} {l:List Ob},obsF ob g K=some l→∀i:Nat,l[i]?=match K[i]? with
  |some k=>(ob k).map (Ob.map g)
  |none=>none
 |[],l,h,i=>by simp[obsF] at h;subst h;simp
 |k::K,l,h,i=>by
  simp only[obsF] at h
  split at h
  ·rename_i o ho
   split at h
   ·rename_i o' l' h1 h2
    injection h with h
    subst h
    have:=frcO_eq h1
    subst this
    match i with
    |0=>simp[ho]
    |i+1=>simpa using obsF_ok h2 i
   ·cases h
  ·cases h
def ObAll:List Ob→List Ob→Prop
 |[],[]=>True
 |[o],[o']=>ObIs1 (some o) o'
 |o::l,o'::l'=>ObIs1 (some o) o'∧ObAll l l'
 |_,_=>False
theorem ObAll.at_:∀{l l':List Ob},ObAll l l'→l.length=l'.length∧∀(i:Nat) (o o':Ob),l[i]?=some o→l'[i]?=some o'→ObIs1 (some o) o'
 |[],[],_=>⟨rfl,fun i o o' h=>by simp at h⟩
 |[x],[y],h=>⟨rfl,fun i o o' h1 h2=>by
  match i with
  |0=>simp at h1 h2;subst h1 h2;exact h
  |i+1=>simp at h1⟩
 |x::x2::l,y::y2::l',h=>by
  obtain⟨h1,h2⟩:=ObAll.at_ (l:=x2::l) (l':=y2::l') h.2
  refine⟨by simpa using h1,fun i x' y' g1 g2=>?_⟩
  match i with
  |0=>simp at g1 g2;subst g1 g2;exact h.1
  |i+1=>exact h2 i x' y' (by simpa using g1) (by simpa using g2)
 |[x],y::y2::l',h=>False.elim h.2
 |x::x2::l,[y],h=>by
  have:=h.2
  cases l<;>simp[ObAll] at this
theorem RetM.of {E:Env} {e:Exit} {fr:Nat→AV} {ob:Nat→Option Ob} {nx nt n:Nat} {md:Nat→Bool} {T:TE} {rs:List ResultVar} {res x x':AV} {O1 O':List Ob} (hee:e=.normal∨e=.ret) (L:List Nat) (hN:E.N=n) (hd:nodupB L=true) (hn:(List.range n).all (fun i=>match L[i]? with
  |some k=>Nat.beq k i
  |none=>false)=true) (hO:obsF ob (renG (posF L)) L=some O1) (hOO:ObAll O1 O') (h:retF T ⟨fun j=>(fr j).map (renG (posF L)),obL O',nx,nt,md⟩ rs=some x) (hf:frc x=some x') (he:AvIs x' res):RetM E T rs res O' e ⟨fr,ob,nx,nt,md⟩:=by
 have e1:=frc_eq hf
 subst e1
 refine⟨hee,⟨fun j=>(fr j).map (renG (posF L)),obL O',nx,nt,md⟩,_,Weak.trans (Weak.ren L hN hd hn) ?_,h,he,rfl⟩
 have hob:(ST.ren ⟨fr,ob,nx,nt,md⟩ L).ob=obL O1:=funext fun i=>(obsF_ok hO i).symm
 obtain⟨hl,hat⟩:=hOO.at_
 intro a w ⟨ρ,h⟩
 refine⟨ρ,h.keep,h.tsz,h.dfr,h.gl,h.fr,fun k o ho=>?_,fun k ho=>?_,h.dis,h.own,h.le⟩
 ·have hlt:k<O1.length:=by
   have:=(List.getElem?_eq_some_iff.1 ho).1
   omega
  have h1:O1[k]?=some O1[k]:=List.getElem?_eq_getElem hlt
  exact ObIs1.ok (hat k _ o h1 ho) (h.ob k _ (by rw[hob];exact h1))
 ·refine h.no k ?_
  rw[hob]
  have ho:O'[k]?=none:=ho
  show O1[k]?=none
  simp at ho ⊢
  omega
theorem XK.outR {E:Env} {fr:Nat→AV} {ob:Nat→Option Ob} {nx nt n:Nat} {md:Nat→Bool} {k:List It} {T:TE} {rs:List ResultVar} {res x x':AV} {O1 O':List Ob} (L:List Nat) (hN:E.N=n) (hd:nodupB L=true) (hn:(List.range n).all (fun i=>match L[i]? with
  |some k=>Nat.beq k i
  |none=>false)=true) (hO:obsF ob (renG (posF L)) L=some O1) (hOO:ObAll O1 O') (h:retF T ⟨fun j=>(fr j).map (renG (posF L)),obL O',nx,nt,md⟩ rs=some x) (hf:frc x=some x') (he:AvIs x' res):XK E (.code .ret::k) (RetM E T rs res O') ⟨fr,ob,nx,nt,md⟩:=
 XK.ret (RetM.of (.inr rfl) L hN hd hn hO hOO h hf he)
theorem XK.outRN {E:Env} {fr:Nat→AV} {ob:Nat→Option Ob} {nx nt n:Nat} {md:Nat→Bool} {T:TE} {rs:List ResultVar} {res x x':AV} {O1 O':List Ob} (L:List Nat) (hN:E.N=n) (hd:nodupB L=true) (hn:(List.range n).all (fun i=>match L[i]? with
  |some k=>Nat.beq k i
  |none=>false)=true) (hO:obsF ob (renG (posF L)) L=some O1) (hOO:ObAll O1 O') (h:retF T ⟨fun j=>(fr j).map (renG (posF L)),obL O',nx,nt,md⟩ rs=some x) (hf:frc x=some x') (he:AvIs x' res):XK E [] (RetM E T rs res O') ⟨fr,ob,nx,nt,md⟩:=
 XK.nil (RetM.of (.inl rfl) L hN hd hn hO hOO h hf he)
def frozenCG (k:Nat) (cs:List AV):AV→AV
 |.ptr j off=>bif Nat.beq j k then .rptr (cs.drop off) else .ptr j off
 |.mp j=>bif Nat.beq j k then .junk else .mp j
 |x=>x
def ST.frozenC (st:ST) (k:Nat) (cs:List AV):ST:={st with fr:=fun j=>(st.fr j).map (frozenCG k cs),ob:=upd (fun j=>(st.ob j).map (Ob.map (frozenCG k cs))) k none}
theorem Sub.frozenC {E:Env} {st:ST} {k t m:Nat} {cs:List AV} (hN:E.N=m) (hk:st.ob k=some (.cells t cs)) (hks:AV.ksL (fun _=>false) cs=true) (hs:Nat.ble m k=true):Sub E st (st.frozenC k cs):=by
 intro a w ρ h
 obtain⟨g,arr,hg,hh,hsz,hr⟩:=h.ob k _ hk
 have hsub:∀j x b,upd ρ k none j=some x→x.block=some b→j≠k∧ρ j=some x:=by
  intro j x b hj hb
  by_cases hjk:j=k
  ·subst hjk;rw[upd_same] at hj;cases hj
  ·rw[upd_other _ _ hjk] at hj;exact⟨hjk,hj⟩
 have hG:∀b,E.good w ρ b→E.good w (upd ρ k none) b:=fun b ⟨h0,hlt,hno⟩=>⟨h0,hlt,fun j y hj hy=>hno j y (hsub j y b hj hy).2 hy⟩
 have hne:∀{j:Nat} {s:Nat} {hv:Value},ρ j=some (.hdr s hv)→j≠k:=fun{j s hv} hj e=>by
  subst e
  rw[hg] at hj;injection hj with hj;cases hj
 have leaf:∀x v,x.isName=true→R w (E.good w ρ) ρ x v→R w (E.good w (upd ρ k none)) (upd ρ k none) (frozenCG k cs x) v:=by
  intro x v hx hxv
  cases hxv with
  |@ptr _ j off g' hj=>
   simp only[frozenCG]
   cases hb:Nat.beq j k with
   |false=>exact .ptr ((upd_other _ _ fun e=>by subst e;simp at hb).trans hj)
   |true=>
    have:=Nat.eq_of_beq_eq_true hb
    subst this
    rw[hg] at hj
    injection hj with hj
    injection hj with hj
    subst hj
    rw[cond_true]
    have hc:=(h.objCells hk hg).drop off
    rw[Addr.add_lit,Nat.zero_add] at hc
    refine R.rptr_mk ⟨.inr (h.own j _ g hg rfl),h.lt hg rfl,fun j' y hj' hy=>?_⟩ fun i y hy=>?_
    ·obtain⟨hn,hj2⟩:=hsub j' y g hj' hy
     exact hn (h.dis j' j y _ g hj2 hg hy rfl)
    ·obtain⟨u,h1,h2⟩:=hc i y hy
     refine⟨u,h1,?_⟩
     have hkk:y.ks (fun _=>false)=true:=AV.ksL_at hks (by
      rw[List.getElem?_drop] at hy
      exact hy)
     exact(h2.free (ρ':=Rho.none) hkk).tr (fun b hb=>⟨hG b hb,rfl⟩) _ (Le.refl _)
  |vptr hj hi=>exact .vptr ((upd_other _ _ (hne hj)).trans hj) hi
  |@mp _ j g' hj=>
   simp only[frozenCG]
   cases hb:Nat.beq j k with
   |false=>exact .mp ((upd_other _ _ fun e=>by subst e;simp at hb).trans hj)
   |true=>exact .junk
  |vptrOld hj hlt=>exact .vptrOld ((upd_other _ _ (hne hj)).trans hj) hlt
  |vec hj=>exact .vec ((upd_other _ _ (hne hj)).trans hj)
  |vecOld hj hlt=>exact .vecOld ((upd_other _ _ (hne hj)).trans hj) hlt
  |junk=>cases hx
  |c=>cases hx
  |agg=>cases hx
  |tup=>cases hx
  |rptr=>cases hx
  |rs=>cases hx
  |fn=>cases hx
  |gd=>cases hx
 refine⟨upd ρ k none,h.conv rfl (fun _=>rfl) leaf (fun j o hj=>?_) (fun j hj=>?_) (fun j x b hj hb=>⟨x,(hsub j x b hj hb).2,hb⟩) (fun j hj x hx=>?_),fun j x hj=>?_⟩
 ·by_cases hjk:j=k
  ·subst hjk;simp only[ST.frozenC,upd_same] at hj;cases hj
  ·simp only[ST.frozenC,upd_other _ _ hjk,Option.map_eq_some_iff] at hj
   obtain⟨o',ho',rfl⟩:=hj
   exact(h.ob j o' ho').map hG leaf (upd_other _ _ hjk)
 ·by_cases hjk:j=k
  ·subst hjk;rw[upd_same]
  ·simp only[ST.frozenC,upd_other _ _ hjk,Option.map_eq_none_iff] at hj
   rw[upd_other _ _ hjk];exact h.no j hj
 ·have:j≠k:=fun e=>by
   subst e
   have:=Nat.le_of_ble_eq_true hs
   omega
  rw[upd_other _ _ this];exact h.le j hj x hx
 ·by_cases hjk:j=k
  ·subst hjk;rw[upd_same] at hj;cases hj
  ·rw[upd_other _ _ hjk] at hj;exact hj
theorem Weak.frozenC {E:Env} {st:ST} {k t m:Nat} {cs:List AV} (hN:E.N=m) (hk:st.ob k=some (.cells t cs)) (hks:AV.ksL (fun _=>false) cs=true) (hs:Nat.ble m k=true):Weak E st (st.frozenC k cs):=(Sub.frozenC hN hk hks hs).weak
theorem Does.toM {P:Program} {f:FuncId} {args:List AV} {res:AV} (h:Does P f args res) (hk:AV.ksL (fun _=>false) args=true):DoesM P f args [] res []:=by
 refine⟨h.1,Nat.le_refl _,fun w G r vs hs hG hgl hm hr=>?_⟩
 have hr0:∀i,r i=none:=fun i=>hm.no i (by simp[obL])
 have hG':∀b,G b→b<w.heap.size:=fun b hb=>(hG b hb).2.1
 refine(h.2 w ((Env.at_ P w G 0 r).good w r) vs hs (fun b hb=>hb.2.1) (hgl.tr fun b hb=>⟨hG b hb,rfl⟩) (fun i x hx=>(hr i x hx).free (AV.ksL_at hk hx))).mono ?_
 rintro e w' ⟨v,rfl,hkeep,hv⟩
 refine⟨v,r,rfl,⟨⟨hkeep.os,hkeep.tape,hkeep.output,hkeep.size,fun b h1 _=>hkeep.block b h1 id,hkeep.drawn⟩,(fun k o ho=>by simp[obL] at ho),fun k _=>hr0 k,(fun k k' x x' b h1=>by rw[hr0 k] at h1;cases h1),(fun k x b h1=>by rw[hr0 k] at h1;cases h1),fun k hk=>absurd hk (Nat.not_lt_zero k)⟩,?_⟩
 refine hv.tr (fun b hb=>⟨?_,rfl⟩) _ (Le.none _)
 rcases hb with⟨h1,h2,h3⟩|⟨h1,h2⟩
 ·exact⟨h1,Nat.lt_of_lt_of_le h2 hkeep.size,h3⟩
 ·exact⟨.inr (.inl h1),h2,(fun k x h1=>by rw[hr0 k] at h1;cases h1)⟩
end Go.Eng
end
