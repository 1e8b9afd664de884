import Derived.Test.YtgpkkllbejgmlaaGreatDoorZz5
set_option linter.unusedSimpArgs false
set_option linter.unusedVariables false
section
namespace Go.Eng
def lkL:List TK→Option (List LK)
 |[]=>some []
 |k::ks=>match k,lkL ks with
  |.int j,some l=>some (.int j::l)
  |.string,some l=>some (.str::l)
  |.bool,some l=>some (.bool::l)
  |_,_=>none
def keyKind (T:TE) (t:Nat):Option KK:=match T.find t with
 |some ti=>match ti.kind with
  |.int k=>some (.int k)
  |.string=>some .str
  |.bool=>some .bool
  |.struct _ _=>match ti.leaf with
   |some ks=>match lkL ks with
    |some ls=>some (.leaf ls)
    |none=>none
   |none=>none
  |_=>none
 |none=>none
def LK.sameL:List LK→List LK→Bool
 |[],[]=>true
 |.int k::l,.int k'::l'=>decide (k=k')&&sameL l l'
 |.str::l,.str::l'=>sameL l l'
 |.bool::l,.bool::l'=>sameL l l'
 |_,_=>false
theorem LK.sameL_eq:∀{a b:List LK},LK.sameL a b=true→a=b
 |[],[],_=>rfl
 |[],_::_,h=>by cases h
 |a::_,[],h=>by cases a<;>cases h
 |a::l,b::l',h=>by
  cases a<;>cases b<;>simp only[LK.sameL,Bool.and_eq_true,decide_eq_true_eq,Bool.false_eq_true] at h
  ·rw[h.1,LK.sameL_eq h.2]
  ·rw[LK.sameL_eq h]
  ·rw[LK.sameL_eq h]
def KK.same:KK→KK→Bool
 |.int k,.int k'=>decide (k=k')
 |.str,.str=>true
 |.bool,.bool=>true
 |.leaf ks,.leaf ks'=>LK.sameL ks ks'
 |_,_=>false
def zeroAV (ti:TI):AV:=bif ti.kind.agg then .agg (ti.zero.map AV.c) else .c (ti.zero.headD undef)
def makeMapF (T:TE) (k t:Nat):Option (List Prop×Eff):=match T.find t with
 |some ti=>match ti.kind with
  |.map kt et=>match keyKind T kt,T.find et with
   |some kk,some te=>some ([],⟨.mp k,some (k,.mapb kk te.zv (fun _=>false) (fun _=>zeroAV te))⟩)
   |_,_=>none
  |_=>none
 |none=>none
def flatSame:Value→Value→Bool
 |.int k a,.int k' b=>decide (k=k')&&(a==b)
 |.string a,.string b=>a==b
 |.bool a,.bool b=>a==b
 |.slice none 0 0,.slice none 0 0=>true
 |.pointer none,.pointer none=>true
 |.map none,.map none=>true
 |.nilFunc,.nilFunc=>true
 |.nilIface,.nilIface=>true
 |_,_=>false
def flatSameL:List Value→List Value→Bool
 |[],[]=>true
 |a::l,b::l'=>flatSame a b&&flatSameL l l'
 |_,_=>false
def zvSame:Value→Value→Bool
 |.agg a,.agg b=>flatSameL a.toList b.toList
 |a,b=>flatSame a b
theorem flatSame_eq {a b:Value} (h:flatSame a b=true):a=b:=by
 unfold flatSame at h
 split at h<;>simp_all [Go.MapKept.bytes_beq]
theorem flatSameL_eq:∀{a b:List Value},flatSameL a b=true→a=b
 |[],[],_=>rfl
 |[],_::_,h=>by simp[flatSameL] at h
 |_::_,[],h=>by simp[flatSameL] at h
 |a::l,b::l',h=>by
  simp only[flatSameL,Bool.and_eq_true] at h
  rw[flatSame_eq h.1,flatSameL_eq h.2]
theorem zvSame_eq {a b:Value} (h:zvSame a b=true):a=b:=by
 unfold zvSame at h
 split at h
 ·rw[Array.toList_inj.1 (flatSameL_eq h)]
 ·exact flatSame_eq h
def constL:List AV→Option (List Value)
 |[]=>some []
 |.c v::l=>match constL l with
  |some vs=>some (v::vs)
  |none=>none
 |_=>none
def keyV:AV→Option Value
 |.c v=>some v
 |.agg l=>match constL l with
  |some vs=>some (.agg vs.toArray)
  |none=>none
 |_=>none
theorem constL_inv {w:World} {G:Nat→Prop} {ρ:Rho}:∀{l:List AV} {vs:List Value},constL l=some vs→l.length=vs.length∧∀(i:Nat) (u:Value),(∀a,l[i]?=some a→R w G ρ a u)→i<l.length→vs[i]?=some u
 |[],vs,h=>by injection h with h;subst h;exact⟨rfl,fun i u _ hi=>absurd hi (Nat.not_lt_zero _)⟩
 |a::l,vs,h=>by
  cases a<;>simp only[constL] at h<;>try (cases h;done)
  rename_i v
  split at h
  ·rename_i vs' hvs
   injection h with h
   subst h
   obtain⟨h1,h2⟩:=constL_inv (w:=w) (G:=G) (ρ:=ρ) hvs
   refine⟨by simp[h1],fun i u hu hi=>?_⟩
   cases i with
   |zero=>have:=(hu _ rfl).c_inv;subst this;rfl
   |succ i=>simpa using h2 i u (fun a ha=>hu a (by simpa using ha)) (by simpa using hi)
  ·cases h
theorem keyV_inv {w:World} {G:Nat→Prop} {ρ:Rho} {a:AV} {v u:Value} (h:keyV a=some v) (hr:R w G ρ a u):u=v:=by
 unfold keyV at h
 split at h
 ·injection h with h;rw[hr.c_inv,h]
 ·rename_i l
  split at h
  ·rename_i vs hvs
   injection h with h
   subst h
   obtain⟨cs,rfl,hs,hc⟩:=hr.agg_inv
   obtain⟨h1,h2⟩:=constL_inv (w:=w) (G:=G) (ρ:=ρ) hvs
   congr 1
   apply Array.ext'
   apply List.ext_getElem?
   intro i
   by_cases hi:i<l.length
   ·have:=h2 i (cs.getD i undef) (fun a ha=>hc i a ha) hi
    rw[this]
    have hi':i<cs.size:=by omega
    simp[hi']
   ·rw[List.getElem?_eq_none (by simp;omega),List.getElem?_eq_none (by simp;omega)]
  ·cases h
 ·cases h
def lookF (T:TE) (ob:Nat→Option Ob) (t:Nat) (ok:Bool):AV→AV→Option (List Prop×AV)
 |.mp k,y=>match keyV y with
  |none=>none
  |some v=>match T.find t with
   |some ti=>match ti.kind with
    |.map kt et=>match keyKind T kt,T.find et with
     |some kk,some te=>(match ob k with
      |some (.mapb kk' zv d f)=>bif KK.same kk kk'&&kk.has v&&zvSame zv te.zv then some ([],bif ok then .tup [f v,.c (.bool (d v))] else f v) else none
      |some (.mapo kk' zv d f sn)=>bif KK.same kk kk'&&kk.has v&&zvSame zv te.zv then some ([],bif ok then .tup [f v,.c (.bool (d v))] else f v) else none
      |_=>none)
     |_,_=>none
    |_=>none
   |none=>none
 |_,_=>none
def mputF (T:TE) (ob:Nat→Option Ob) (t:Nat):AV→AV→AV→Option (Nat×Ob)
 |.mp k,y,x=>match keyV y with
  |none=>none
  |some v=>match T.find t with
   |some ti=>match ti.kind with
    |.map kt _=>match keyKind T kt with
     |some kk=>(match ob k with
      |some (.mapb kk' zv d f)=>bif KK.same kk kk'&&kk.has v&&x.ks (fun _=>false) then some (k,.mapb kk' zv (fun u=>keyEq u v||d u) (fun u=>bif keyEq u v then x else f u)) else none
      |some (.mapo kk' zv d f sn)=>bif KK.same kk kk'&&kk.has v then some (k,.mapo kk' zv (fun u=>keyEq u v||d u) (fun u=>bif keyEq u v then x else f u) sn) else none
      |_=>none)
     |none=>none
    |_=>none
   |none=>none
 |_,_,_=>none
def effG (T:TE) (st:ST) (d k:Nat) (e:Operand→AV) (op:Op):Option (List Prop×Eff):=
 match op with
 |.alloc t=>match T.find t,st.ob k with
  |some ti,none=>match newObj T k t (ti.zero.map AV.c) with
   |some (x,o)=>some ([],⟨x,some (k,o)⟩)
   |none=>none
  |_,_=>none
 |.box t x=>match avCells st.ob (e x),st.ob k with
  |some l,none=>match newObj T k t l with
   |some (x,o)=>some ([],⟨x,some (k,o)⟩)
   |none=>none
  |_,_=>none
 |.buildSlice t len parts=>match bsCells T st.ob t len (parts.toList.map fun p=>(p.1,e p.2)) with
  |some (el,sz,l)=>bif AV.ksL (fun _=>false) l then
    (bif st.md d then(match st.ob k with
     |none=>some ([],⟨.vec k 0,some (k,.vec el sz 0 len (rowOf l sz))⟩)
     |_=>none) else some ([],⟨.rs sz len (rowOf l sz),none⟩)) else none
  |none=>none
 |.makeSlice t x y=>match st.ob k with
  |none=>makeF T k t (e x) (e y)
  |_=>none
 |.store t x y=>match storeF T st.ob t (e x) (e y) with
  |some (k',o)=>some ([],⟨.junk,some (k',o)⟩)
  |none=>none
 |.makeMap t none=>match st.ob k with
  |none=>makeMapF T k t
  |_=>none
 |.lookup t x i ok=>match lookF T st.ob t ok (e x) (e i) with
  |some (obl,x)=>some (obl,⟨x,none⟩)
  |none=>none
 |.mapUpdate t m i x=>match mputF T st.ob t (e m) (e i) (e x) with
  |some (k',o)=>some ([],⟨.junk,some (k',o)⟩)
  |none=>none
 |.insert t m i x=>match mputF T st.ob t (e m) (e i) (e x) with
  |some (k',o)=>some ([],⟨.junk,some (k',o)⟩)
  |none=>none
 |.call c=>match c.callee,c.args.toList,c.argTypes.toList with
  |.builtin .append,[s,x],[t,t']=>bif Nat.beq t t' then appendF T st.ob k t (e s) (e x) else none
  |.builtin .copy,[s,x],[t,t']=>bif Nat.beq t t' then copyF T st.ob t (e s) (e x) else none
  |_,_,_=>match valF T st.ob (st.md d) e (.call c) with
   |some (obl,x)=>some (obl,⟨x,none⟩)
   |none=>none
 |op=>match valF T st.ob (st.md d) e op with
  |some (obl,x)=>some (obl,⟨x,none⟩)
  |none=>none
def effF (T:TE) (st:ST) (d:Nat) (e:Operand→AV) (op:Op):Option (List Prop×Eff):=effG T st d (st.nx+d) e op
section
variable {E:Env} {st:ST} {a:Act} {w:World} {ρ:Rho} {T:TE}
theorem app_none {st:ST} {x:AV} {k:Nat} {o:Ob}:st.app none ⟨x,some (k,o)⟩={st with ob:=upd st.ob k (some o)}:=rfl
theorem KK.same_eq {a b:KK} (h:KK.same a b=true):a=b:=by
 cases a<;>cases b<;>simp_all [KK.same]
 exact LK.sameL_eq h
theorem lkL_len:∀{ks:List TK} {ls:List LK},lkL ks=some ls→ls.length=ks.length
 |[],ls,h=>by injection h with h;subst h;rfl
 |k::ks,ls,h=>by
  simp only[lkL] at h
  split at h
  ·rename_i j l hl;injection h with h;subst h;simp[lkL_len hl]
  ·rename_i l hl;injection h with h;subst h;simp[lkL_len hl]
  ·rename_i l hl;injection h with h;subst h;simp[lkL_len hl]
  ·cases h
theorem hasL_len:∀{ls:List LK} {vs:List Value},LK.hasL ls vs=true→vs.length=ls.length
 |[],[],_=>rfl
 |[],_::_,h=>by cases h
 |_::_,[],h=>by cases h
 |k::ls,v::vs,h=>by simp only[LK.hasL,Bool.and_eq_true] at h;simp[hasL_len h.2]
theorem cellEq_same {k:TK} {l:LK} (h:lkL [k]=some [l]) {u v:Value} (hu:l.has u=true) (hv:l.has v=true):cellEq k u v=some (cellSame u v):=by
 cases k<;>simp[lkL] at h<;>subst h<;>cases u<;>cases v<;>simp_all [LK.has,cellEq,cellSame]
theorem cellsEq_same:∀{ks:List TK} {ls:List LK},lkL ks=some ls→∀{u v:List Value},LK.hasL ls u=true→LK.hasL ls v=true→cellsEq ks u v=some (cellSameL u v)
 |[],ls,h,u,v,hu,hv=>by
  injection h with h
  subst h
  cases u<;>cases v<;>simp_all [LK.hasL,cellsEq,cellSameL]
 |k::ks,ls,h,u,v,hu,hv=>by
  obtain⟨l,ls',rfl,h1,h2⟩:∃l ls',ls=l::ls'∧lkL [k]=some [l]∧lkL ks=some ls':=by
   simp only[lkL] at h ⊢
   split at h
   ·rename_i j l hl;injection h with h;exact⟨_,_,h.symm,rfl,hl⟩
   ·rename_i l hl;injection h with h;exact⟨_,_,h.symm,rfl,hl⟩
   ·rename_i l hl;injection h with h;exact⟨_,_,h.symm,rfl,hl⟩
   ·cases h
  cases u with
  |nil=>simp[LK.hasL] at hu
  |cons a u=>
   cases v with
   |nil=>simp[LK.hasL] at hv
   |cons b v=>
    simp only[LK.hasL,Bool.and_eq_true] at hu hv
    have e1:=cellEq_same h1 hu.1 hv.1
    have e2:=cellsEq_same h2 hu.2 hv.2
    cases ks with
    |nil=>
     injection h2 with h2
     subst h2
     cases u<;>cases v<;>simp_all [LK.hasL,cellsEq,cellSameL]
    |cons k2 ks=>simp only[cellsEq,e1,e2,cellSameL]
section
variable {P:Program} {kt:TypeId} {kk:KK} {v:Value}
theorem keyKind_one (hT:TOk P T) (h:keyKind T kt=some kk):(∃d,P.underlying kt=some d∧∀v,kk.has v=true→Go.MapKept.IsKey d v)∨(∃ti ks ls fs,T.find kt=some ti∧ti.leaf=some ks∧lkL ks=some ls∧kk=.leaf ls∧P.underlying kt=some (.struct fs)):=by
 unfold keyKind at h
 split at h
 ·rename_i ti ht
  have hk:=(hT kt ti ht).kind
  split at h
  ·rename_i k hkd
   injection h with h
   subst h
   rw[hkd] at hk
   exact .inl ⟨_,hk,fun v hv=>by cases v<;>simp_all [KK.has,LK.has,Go.MapKept.IsKey]⟩
  ·rename_i hkd
   injection h with h
   subst h
   rw[hkd] at hk
   exact .inl ⟨_,hk,fun v hv=>by cases v<;>simp_all [KK.has,LK.has,Go.MapKept.IsKey]⟩
  ·rename_i hkd
   injection h with h
   subst h
   rw[hkd] at hk
   exact .inl ⟨_,hk,fun v hv=>by cases v<;>simp_all [KK.has,LK.has,Go.MapKept.IsKey]⟩
  ·rename_i hkd
   rw[hkd] at hk
   obtain⟨fs,hu,_⟩:=hk
   split at h
   ·rename_i ks hl
    split at h
    ·rename_i ls hls
     injection h with h
     exact .inr ⟨ti,ks,ls,fs,ht,hl,hls,h.symm,hu⟩
    ·cases h
   ·cases h
  ·cases h
 ·cases h
theorem keyCheck (hT:TOk P T) (h:keyKind T kt=some kk) (hv:kk.has v=true) (em:Bool) (w:World):(Instr.checkKey em 10000 kt v).run P w=.ok () w:=by
 rcases keyKind_one hT h with⟨d,hd,hk⟩|⟨ti,ks,ls,fs,ht,hl,hls,rfl,hu⟩
 ·exact Go.MapKept.run_checkKey hd (hk v hv) em 9999
 ·cases v<;>simp only[KK.has,Bool.false_eq_true] at hv
  rename_i cs
  have:=(hT kt ti ht).key ks hl em cs.toList w (by rw[hasL_len hv,lkL_len hls])
  simpa using this
theorem askLeaf {ti:TI} {ks:List TK} {ls:List LK} (hT:TOk P T) (ht:T.find kt=some ti) (hl:ti.leaf=some ks) (hls:lkL ks=some ls) (w:World) (hv:(KK.leaf ls).has v=true):∀(l:List MapEntry) (i:Nat),(∀e∈l,(KK.leaf ls).has e.key=true)→
  ((Instr.findAsking kt v l i).run P w=.ok none w∧∀e∈l,e.key≠v)∨∃j e,(Instr.findAsking kt v l i).run P w=.ok (some (i+j,e.val)) w∧l[j]?=some e∧e.key=v
 |[],i,_=>.inl ⟨by simp[Instr.findAsking],fun e he=>by cases he⟩
 |e::l,i,hall=>by
  have he:=hall e (by simp)
  have hq:(Op.equal kt v e.key).run P w=.ok (keyEq v e.key) w:=by
   cases v<;>simp only[KK.has,Bool.false_eq_true] at hv
   cases hk:e.key<;>rw[hk] at he<;>simp only[KK.has,Bool.false_eq_true] at he
   rename_i a b
   have:=((hT kt ti ht).leaf ks hl).2 a.toList b.toList _ w (cellsEq_same hls hv he)
   simpa[keyEq] using this
  cases hb:keyEq v e.key with
  |false=>
   have hne:e.key≠v:=fun h=>by rw[(keyEq_iff hv he).2 h.symm] at hb;cases hb
   rw[hb] at hq
   rcases askLeaf hT ht hl hls w hv l (i+1) (fun y hy=>hall y (by simp[hy])) with⟨h1,h2⟩|⟨j,e',h1,h2,h3⟩
   ·refine .inl ⟨by simp[Instr.findAsking,hq,h1],fun y hy=>?_⟩
    rcases List.mem_cons.1 hy with rfl|hy
    ·exact hne
    ·exact h2 y hy
   ·exact .inr ⟨j+1,e',by simp[Instr.findAsking,hq,h1,Nat.add_assoc,Nat.add_comm 1 j],by simpa using h2,h3⟩
  |true=>
   rw[hb] at hq
   exact .inr ⟨0,e,by simp[Instr.findAsking,hq],rfl,((keyEq_iff hv he).1 hb).symm⟩
theorem keyFind (hT:TOk P T) (h:keyKind T kt=some kk) (hv:kk.has v=true) {l:List MapEntry} (hl:∀e∈l,kk.has e.key=true) (w:World):
  ((Instr.findKey kt v l).run P w=.ok none w∧∀e∈l,e.key≠v)∨∃j e,(Instr.findKey kt v l).run P w=.ok (some (j,e.val)) w∧l[j]?=some e∧e.key=v:=by
 rcases keyKind_one hT h with⟨d,hd,hk⟩|⟨ti,ks,ls,fs,ht,hlf,hls,rfl,hu⟩
 ·rcases Go.MapKept.findNow_spec (hk v hv) l 0 (fun e he=>hk _ (hl e he)) with⟨h1,h2⟩|⟨j,e,h1,h2,h3⟩
  ·exact .inl ⟨Go.MapKept.run_findKey hd h1,h2⟩
  ·exact .inr ⟨j,e,by simpa using Go.MapKept.run_findKey (w:=w) hd h1,h2,h3⟩
 ·cases l with
  |nil=>exact .inl ⟨by simp[Instr.findKey,run_underlying hu,Instr.findNow],fun e he=>by cases he⟩
  |cons e l=>
   have hn:Instr.findNow (.struct fs) v (e::l) 0=none:=by simp[Instr.findNow,Instr.sameNow]
   have hr:(Instr.findKey kt v (e::l)).run P w=(Instr.findAsking kt v (e::l)).run P w:=by simp[Instr.findKey,run_underlying hu,hn]
   rw[hr]
   rcases askLeaf hT ht hlf hls w hv (e::l) 0 hl with h1|⟨j,e',h1,h2⟩
   ·exact .inl h1
   ·exact .inr ⟨j,e',by simpa using h1,h2⟩
theorem cell_sameBits {l:LK} {u:Value} (h:l.has u=true) (n:Nat):Instr.sameBits n u u=true:=by
 cases l<;>cases u<;>simp_all [LK.has,Instr.sameBits,Go.MapKept.bytes_beq]
theorem cells_sameBits {n:Nat}:∀{ls:List LK} {u:List Value},LK.hasL ls u=true→((u.zip u).all fun(x,y)=>Instr.sameBits n x y)=true
 |[],[],_=>rfl
 |[],_::_,h=>by cases h
 |_::_,[],h=>by cases h
 |l::ls,a::u,h=>by
  simp only[LK.hasL,Bool.and_eq_true] at h
  simp only[List.zip_cons_cons,List.all_cons,cell_sameBits h.1,Bool.true_and]
  exact cells_sameBits h.2
theorem keyStays (hv:kk.has v=true) (w:World):(Instr.keyThatStays v v).run P w=.ok v w:=by
 have:Instr.sameBits 10000 v v=true:=by
  cases kk with
  |int k=>exact cell_sameBits (l:=.int k) hv _
  |str=>exact cell_sameBits (l:=.str) hv _
  |bool=>exact cell_sameBits (l:=.bool) hv _
  |leaf ls=>
   cases v<;>simp only[KK.has,Bool.false_eq_true] at hv
   simp only[Instr.sameBits,beq_self_eq_true,Bool.true_and]
   exact cells_sameBits hv
 simp[Instr.keyThatStays,this]
theorem keys_modify {es:Array MapEntry} (h:∀x∈es.toList,kk.has x.key=true) (i:Nat) (f:MapEntry→MapEntry) (hk:∀e,es[i]?=some e→(f e).key=e.key):∀x∈(es.modify i f).toList,kk.has x.key=true:=by
 intro x hx
 have h1:x.key∈(es.modify i f).toList.map (·.key):=List.mem_map.2 ⟨x,hx,rfl⟩
 rw[Go.MapKept.modify_keys i f hk] at h1
 obtain⟨y,hy,e⟩:=List.mem_map.1 h1
 rw[←e]
 exact h y hy
end
theorem has_of (es:List MapEntry) (v:Value):∃r,Holds es v r:=by
 by_cases h:∃e∈es,e.key=v
 ·obtain⟨e,he,hk⟩:=h
  exact⟨_,.inr ⟨e,he,hk,rfl⟩⟩
 ·exact⟨none,.inl ⟨rfl,fun e he hk=>h ⟨e,he,hk⟩⟩⟩
theorem Holds.fn {es:List MapEntry} {v:Value} {r r':Option Value} (hn:(es.map (·.key)).Nodup) (h:Holds es v r) (h':Holds es v r'):r=r':=by
 rcases h with⟨rfl,h⟩|⟨e,he,hk,rfl⟩<;>rcases h' with⟨rfl,h'⟩|⟨e',he',hk',rfl⟩
 ·rfl
 ·exact absurd hk' (h e' he')
 ·exact absurd hk (h' e he)
 ·have:e=e':=by
   rw[List.Nodup,List.pairwise_map] at hn
   by_cases hee:e=e'
   ·exact hee
   ·exfalso
    have hp:es.Pairwise (fun a b=>a.key≠b.key):=hn
    rcases List.pairwise_iff_getElem.1 hp with hp
    obtain⟨i,hi,rfl⟩:=List.getElem_of_mem he
    obtain⟨j,hj,rfl⟩:=List.getElem_of_mem he'
    rcases Nat.lt_trichotomy i j with hij|hij|hij
    ·exact hp i j hi hj hij (hk.trans hk'.symm)
    ·subst hij;exact hee rfl
    ·exact hp j i hj hi hij (hk'.trans hk.symm)
  subst this;rfl
theorem zeroAV_ok {w:World} {G:Nat→Prop} {ρ:Rho} (ti:TI):R w G ρ (zeroAV ti) ti.zv:=by
 unfold zeroAV TI.zv
 cases ti.kind.agg with
 |true=>
  refine .agg (by simp) fun i x hx=>?_
  simp only[List.getElem?_map,Option.map_eq_some_iff] at hx
  obtain⟨v,hv,rfl⟩:=hx
  have:ti.zero.toArray.getD i undef=v:=by simp[hv]
  rw[this];exact .c
 |false=>exact .c
theorem makeMap_ok (h:SatR E st a w ρ) {k t:Nat} {eff:Eff} {obl:List Prop} (hm:makeMapF T k t=some (obl,eff)) (hk:st.ob k=none):
  ∃z w' ρ' o,(Instr.makeMap t none).run E.P w=.ok z w'∧eff.ob=some (k,o)∧SatR E {st with ob:=upd st.ob k (some o)} a w' ρ'∧R w' (E.good w' ρ') ρ' eff.av z:=by
 unfold makeMapF at hm
 split at hm<;>try (cases hm;done)
 split at hm<;>try (cases hm;done)
 split at hm<;>try (cases hm;done)
 rename_i kk te hkk hte
 simp only[Option.some.injEq,Prod.mk.injEq] at hm
 obtain⟨rfl,rfl⟩:=hm
 have hn:=h.no k hk
 refine⟨.map (some w.heap.size),w.alloc (.map #[] 0),upd ρ k (some (.blk w.heap.size)),_,by simp[Instr.makeMap,Result.andThen],rfl,?_,.mp (upd_same _ _ _)⟩
 refine h.turn (.inl hn) (by rw[hn];exact World.grownBy_alloc w _ none) (Nat.le_refl _) (fun b hb=>?_) fun hG hl=>?_
 ·injection hb with hb;subst hb;exact .inr (Nat.le_refl _)
 ·exact⟨w.heap.size,#[],0,upd_same _ _ _,heap_alloc_new w _,⟨Go.MapKept.stamped_empty 0,fun e he=>by simp at he⟩,fun v _=>⟨none,.inl ⟨rfl,fun e he=>by simp at he⟩,rfl,zeroAV_ok te⟩⟩
theorem look_ok (hT:TOk E.P T) (h:SatR E st a w ρ) {t:Nat} {ok:Bool} {x y r:AV} {u v:Value} {obl:List Prop} (hl:lookF T st.ob t ok x y=some (obl,r)) (hx:R w (E.good w ρ) ρ x u) (hy:R w (E.good w ρ) ρ y v):
  ∃z,(Instr.lookup t u v ok).run E.P w=.ok z w∧R w (E.good w ρ) ρ r z:=by
 unfold lookF at hl
 split at hl<;>try (cases hl;done)
 rename_i y1 k
 split at hl<;>try (cases hl;done)
 rename_i v1 hkv0
 have hv:=keyV_inv hkv0 hy
 subst hv
 split at hl<;>try (cases hl;done)
 rename_i ti hti
 split at hl<;>try (cases hl;done)
 rename_i kt et hkd
 split at hl<;>try (cases hl;done)
 rename_i kk te hkk hte
 have hmap:E.P.underlying t=some (.map kt et):=by have:=(hT t ti hti).kind;rw[hkd] at this;exact this
 have fin:∀{g:Nat} {es:Array MapEntry} {clock:Nat} {zv:Value} {d:Value→Bool} {f:Value→AV},u=.map (some g)→w.heap[g]?=some (.map es clock)→(Go.MapKept.Stamped es clock∧∀e∈es.toList,kk.has e.key=true)→
   kk.has v=true→zv=te.zv→(∃q,Holds es.toList v q∧q.isSome=d v∧R w (E.good w ρ) ρ (f v) (q.getD zv))→r=(bif ok then AV.tup [f v,.c (.bool (d v))] else f v)→
   ∃z,(Instr.lookup t u v ok).run E.P w=.ok z w∧R w (E.good w ρ) ρ r z:=by
  intro g es clock zv d f hu hh hes hkv hzv hq hr
  obtain⟨q,q1,q2,q3⟩:=hq
  have hkey:=KK.has_ok hkv
  subst hr
  have out:R w (E.good w ρ) ρ (bif ok then AV.tup [f v,.c (.bool (d v))] else f v) (if ok then .tuple #[q.getD zv,.bool q.isSome] else q.getD zv):=by
   cases ok with
   |false=>simpa using q3
   |true=>
    refine .tup (by simp) fun i x hx=>?_
    match i with
    |0=>simp at hx;subst hx;simpa using q3
    |1=>simp at hx;subst hx;rw[←q2];simpa using R.c
    |i+2=>simp at hx
  refine⟨_,?_,out⟩
  subst hu
  rcases keyFind hT hkk hkey hes.2 w with⟨h1,h2⟩|⟨j,e,h1,h2,h3⟩
  ·have hq':q=none:=q1.fn hes.1.2.2 (.inl ⟨rfl,h2⟩)
   subst hq'
   simp[Instr.lookup,run_underlying hmap,Go.MapKept.run_getObj_map hh,keyCheck hT hkk hkey,h1,Result.andThen,(hT et te hte).run_zv w,hzv]
  ·have hq':q=some e.val:=q1.fn hes.1.2.2 (.inr ⟨e,List.mem_of_getElem? h2,h3,rfl⟩)
   subst hq'
   simp[Instr.lookup,run_underlying hmap,Go.MapKept.run_getObj_map hh,keyCheck hT hkk hkey,h1,Result.andThen]
 obtain⟨g,hg,rfl⟩:∃g,ρ k=some (.blk g)∧u=.map (some g):=by
  cases hx with|mp hk=>exact⟨_,hk,rfl⟩
 split at hl<;>try (cases hl;done)
 ·rename_i kk' zv d f hob
  cases hc:KK.same kk kk'&&kk.has v&&zvSame zv te.zv with
  |false=>simp[hc] at hl
  |true=>
   simp only[hc,cond_true,Option.some.injEq,Prod.mk.injEq] at hl
   obtain⟨_,hr⟩:=hl
   simp only[Bool.and_eq_true] at hc
   have:=KK.same_eq hc.1.1
   subst this
   obtain⟨g',es,clock,g1,g2,g3,g4⟩:=h.ob k _ hob
   rw[hg] at g1
   injection g1 with g1
   injection g1 with g1
   subst g1
   obtain⟨q,q1,q2,q3⟩:=g4 v (KK.has_ok hc.1.2)
   exact fin rfl g2 g3 hc.1.2 (zvSame_eq hc.2) ⟨q,q1,q2,q3.tr (fun b hb=>⟨hb,rfl⟩) _ (Le.none _)⟩ hr.symm
 ·rename_i kk' zv d f sn hob
  cases hc:KK.same kk kk'&&kk.has v&&zvSame zv te.zv with
  |false=>simp[hc] at hl
  |true=>
   simp only[hc,cond_true,Option.some.injEq,Prod.mk.injEq] at hl
   obtain⟨_,hr⟩:=hl
   simp only[Bool.and_eq_true] at hc
   have:=KK.same_eq hc.1.1
   subst this
   obtain⟨g',es,clock,g1,g2,g3,g4,_⟩:=h.ob k _ hob
   rw[hg] at g1
   injection g1 with g1
   injection g1 with g1
   subst g1
   exact fin rfl g2 g3 hc.1.2 (zvSame_eq hc.2) (g4 v (KK.has_ok hc.1.2)) hr.symm
theorem SatR.setMap (h:SatR E st a w ρ) {k g:Nat} {es es':Array MapEntry} {clock clock':Nat} {o:Ob} (hg:ρ k=some (.blk g)) (hh:w.heap[g]?=some (.map es clock))
  (ho:∀w',(∀b,E.good w ρ b→E.good w' ρ b∧w'.heap[b]?=w.heap[b]?)→w'.heap[g]?=some (.map es' clock')→ObOk w' (E.good w' ρ) ρ k o):
  SatR E {st with ob:=upd st.ob k (some o)} a {w with heap:=w.heap.setIfInBounds g (.map es' clock')} ρ:=by
 have hu:upd ρ k (some (.blk g))=ρ:=by
  funext j
  by_cases hj:j=k
  ·subst hj;rw[upd_same,hg]
  ·rw[upd_other _ _ hj]
 have hs:=Go.MapKept.heap_set (o':=.map es' clock') hh
 have:=h.turn (k:=k) (x:=.blk g) (o:=o) (w':={w with heap:=w.heap.setIfInBounds g (.map es' clock')}) (.inr (.inl hg))
  ⟨rfl,rfl,rfl,by simp,fun b _ hb=>hs.2 b fun e=>hb (by rw[hg,e];rfl)⟩ (Nat.le_refl _) (fun b hb=>.inl (by rw[hg];exact hb)) fun hG hl=>by
   rw[hu] at hG hl ⊢
   exact ho _ hG hs.1
 rwa[hu] at this
theorem mput_ok (hT:TOk E.P T) (h:SatR E st a w ρ) {t:Nat} {x y z:AV} {u v q:Value} {k:Nat} {o:Ob} (hl:mputF T st.ob t x y z=some (k,o)) (hx:R w (E.good w ρ) ρ x u) (hy:R w (E.good w ρ) ρ y v) (hz:R w (E.good w ρ) ρ z q):
  ∃w',(Instr.mapUpdate t u v q).run E.P w=.ok () w'∧SatR E {st with ob:=upd st.ob k (some o)} a w' ρ:=by
 unfold mputF at hl
 split at hl<;>try (cases hl;done)
 rename_i x1 y1 z1 k1
 split at hl<;>try (cases hl;done)
 rename_i v1 hkv0
 have hv:=keyV_inv hkv0 hy
 subst hv
 split at hl<;>try (cases hl;done)
 rename_i ti hti
 split at hl<;>try (cases hl;done)
 rename_i kt et hkd
 split at hl<;>try (cases hl;done)
 rename_i kk hkk
 have hmap:E.P.underlying t=some (.map kt et):=by have:=(hT t ti hti).kind;rw[hkd] at this;exact this
 obtain⟨g,hg,rfl⟩:∃g,ρ k1=some (.blk g)∧u=.map (some g):=by
  cases hx with|mp hk=>exact⟨_,hk,rfl⟩
 -- what the entries become
 have ent:∀{es:Array MapEntry} {clock:Nat},w.heap[g]?=some (.map es clock)→Go.MapKept.Stamped es clock→(∀e∈es.toList,kk.has e.key=true)→kk.has v=true→
   ∃es' clock',(Instr.mapUpdate t (.map (some g)) v q).run E.P w=.ok () {w with heap:=w.heap.setIfInBounds g (.map es' clock')}∧Go.MapKept.Stamped es' clock'∧(∀e∈es'.toList,kk.has e.key=true)∧
    Holds es'.toList v (some q)∧(∀u r,u≠v→Holds es.toList u r→Holds es'.toList u r)∧∀e∈es.toList,∃e'∈es'.toList,e'.key=e.key∧e'.born=e.born:=by
  intro es clock hb hs hks hkv
  have hkey:=KK.has_ok hkv
  rcases keyFind hT hkk hkey hks w with⟨h1,h2⟩|⟨j,e,h1,h2,h3⟩
  ·refine⟨es.push {key:=v,val:=q,born:=clock},clock+1,?_,Go.MapKept.stamped_push hs h2,?_,.inr ⟨{key:=v,val:=q,born:=clock},by simp,rfl,rfl⟩,?_,fun e he=>⟨e,by simp[he],rfl,rfl⟩⟩
   ·simp[Instr.mapUpdate,run_underlying hmap,Go.MapKept.run_getObj_map hb,keyCheck hT hkk hkey,h1,Go.MapKept.run_setObj_map _ hb,Result.andThen]
   ·intro x hx
    simp only[Array.toList_push,List.mem_append,List.mem_singleton] at hx
    rcases hx with hx|rfl
    ·exact hks x hx
    ·exact hkey
   ·intro u r hu hr
    rcases hr with⟨rfl,hr⟩|⟨e,he,hk,rfl⟩
    ·refine .inl ⟨rfl,fun e he=>?_⟩
     simp only[Array.toList_push,List.mem_append,List.mem_singleton] at he
     rcases he with he|rfl
     ·exact hr e he
     ·exact fun h=>hu h.symm
    ·exact .inr ⟨e,by simp[he],hk,rfl⟩
  ·have hj:es[j]?=some e:=by simpa using h2
   have hkey':∀e',es[j]?=some e'→({e' with key:=v,val:=q}:MapEntry).key=e'.key:=fun e' he'=>by rw[hj] at he';cases he';exact h3.symm
   have hget:∀i,(es.modify j fun e=>{e with key:=v,val:=q}).toList[i]?=if i=j then some {e with key:=v,val:=q} else es.toList[i]?:=by
    intro i
    simp only[Array.getElem?_toList,Array.getElem?_modify]
    by_cases hij:j=i
    ·subst hij;simp[hj]
    ·simp[hij,Ne.symm hij]
   refine⟨es.modify j fun e=>{e with key:=v,val:=q},clock,?_,Go.MapKept.stamped_modify hs _ _ (fun _ _=>rfl) (fun e' _ he'=>hkey' e' he'),keys_modify hks _ _ hkey',?_,?_,fun e' he'=>?_⟩
   ·simp[Instr.mapUpdate,run_underlying hmap,Go.MapKept.run_getObj_map hb,keyCheck hT hkk hkey,h1,hj,h3,keyStays hkey,Go.MapKept.run_setObj_map _ hb,Result.andThen]
   ·exact .inr ⟨{e with key:=v,val:=q},List.mem_of_getElem? (i:=j) (by rw[hget j,if_pos rfl]),rfl,rfl⟩
   ·intro u r hu hr
    rcases hr with⟨rfl,hr⟩|⟨e1,he,hk,rfl⟩
    ·refine .inl ⟨rfl,fun e' he'=>?_⟩
     obtain⟨i,hi⟩:=List.mem_iff_getElem?.1 he'
     rw[hget i] at hi
     split at hi
     ·injection hi with hi;subst hi;exact fun h=>hu h.symm
     ·exact hr e' (List.mem_of_getElem? hi)
    ·obtain⟨i,hi⟩:=List.mem_iff_getElem?.1 he
     have hij:i≠j:=by
      rintro rfl
      rw[h2] at hi
      injection hi with hi
      subst hi
      exact hu (hk.symm.trans h3)
     exact .inr ⟨e1,List.mem_of_getElem? (i:=i) (by rw[hget i,if_neg hij];exact hi),hk,rfl⟩
   ·obtain⟨i,hi⟩:=List.mem_iff_getElem?.1 he'
    by_cases hij:i=j
    ·subst hij
     rw[h2] at hi
     injection hi with hi
     subst hi
     exact⟨{e with key:=v,val:=q},List.mem_of_getElem? (i:=i) (by rw[hget i,if_pos rfl]),h3.symm,rfl⟩
    ·exact⟨e',List.mem_of_getElem? (i:=i) (by rw[hget i,if_neg hij];exact hi),rfl,rfl⟩
 split at hl<;>try (cases hl;done)
 ·rename_i kk' zv d f hob
  cases hc:KK.same kk kk'&&kk.has v&&z.ks (fun _=>false) with
  |false=>simp[hc] at hl
  |true=>
   simp only[hc,cond_true,Option.some.injEq,Prod.mk.injEq] at hl
   obtain⟨rfl,rfl⟩:=hl
   simp only[Bool.and_eq_true] at hc
   have:=KK.same_eq hc.1.1
   subst this
   obtain⟨g',es,clock,g1,g2,g3,g4⟩:=h.ob _ _ hob
   rw[hg] at g1
   injection g1 with g1
   injection g1 with g1
   subst g1
   obtain⟨es',clock',e1,e2,e3,e4,e5,_⟩:=ent g2 g3.1 g3.2 hc.1.2
   refine⟨_,e1,h.setMap hg g2 fun w' hG hh=>⟨g,es',clock',hg,hh,⟨e2,e3⟩,fun s hs=>?_⟩⟩
   cases hkq:keyEq s v with
   |true=>
    have:=(keyEq_iff hs (KK.has_ok hc.1.2)).1 hkq
    subst this
    exact⟨some q,e4,by simp[hkq],by simpa[hkq] using (hz.tr hG _ (Le.refl _)).free hc.2⟩
   |false=>
    have hne:s≠v:=fun e=>by rw[(keyEq_iff hs (KK.has_ok hc.1.2)).2 e] at hkq;cases hkq
    obtain⟨r,r1,r2,r3⟩:=g4 s hs
    exact⟨r,e5 s r hne r1,by simp[hkq,r2],by simpa[hkq] using r3.tr hG _ (Le.refl _)⟩
 ·rename_i kk' zv d f sn hob
  cases hc:KK.same kk kk'&&kk.has v with
  |false=>simp[hc] at hl
  |true=>
   simp only[hc,cond_true,Option.some.injEq,Prod.mk.injEq] at hl
   obtain⟨rfl,rfl⟩:=hl
   simp only[Bool.and_eq_true] at hc
   have:=KK.same_eq hc.1
   subst this
   obtain⟨g',es,clock,g1,g2,g3,g4,g5⟩:=h.ob _ _ hob
   rw[hg] at g1
   injection g1 with g1
   injection g1 with g1
   subst g1
   obtain⟨es',clock',e1,e2,e3,e4,e5,e6⟩:=ent g2 g3.1 g3.2 hc.2
   refine⟨_,e1,h.setMap hg g2 fun w' hG hh=>⟨g,es',clock',hg,hh,⟨e2,e3⟩,fun s hs=>?_,fun x hx=>by
    obtain⟨e,he,h1,h2⟩:=g5 x hx
    obtain⟨e',he',h3,h4⟩:=e6 e he
    exact⟨e',he',h3.trans h1,h4.trans h2⟩⟩⟩
   cases hkq:keyEq s v with
   |true=>
    have:=(keyEq_iff hs (KK.has_ok hc.2)).1 hkq
    subst this
    exact⟨some q,e4,by simp[hkq],by simpa[hkq] using hz.tr hG _ (Le.refl _)⟩
   |false=>
    have hne:s≠v:=fun e=>by rw[(keyEq_iff hs (KK.has_ok hc.2)).2 e] at hkq;cases hkq
    obtain⟨r,r1,r2,r3⟩:=g4 s hs
    exact⟨r,e5 s r hne r1,by simp[hkq,r2],by simpa[hkq] using r3.tr hG _ (Le.refl _)⟩
theorem effF_ok (hT:TOk E.P T) (h:SatR E st a w ρ) {o:Oper} {d:Nat} {e:Operand→AV} {obl:List Prop} {eff:Eff} (he:∀x∈o.op.operands,R w (E.good w ρ) ρ (e x) (a.eval x))
  (hf:effF T st d e o.op=some (obl,eff)) (ho:∀p∈obl,p):
  ∃n w' ρ',(execOp a.eval o).run E.P w=.ok n w'∧SatR E (st.app none eff) a w' ρ'∧((∃z,n=.value z∧R w' (E.good w' ρ') ρ' eff.av z)∨(n=.skip∧eff.av=.junk)):=by
 have hval:(match valF T st.ob (st.md d) e o.op with
  |some (obl,x)=>some (obl,(⟨x,none⟩:Eff))
  |none=>none)=some (obl,eff)→∃n w' ρ',(execOp a.eval o).run E.P w=.ok n w'∧SatR E (st.app none eff) a w' ρ'∧((∃z,n=.value z∧R w' (E.good w' ρ') ρ' eff.av z)∨(n=.skip∧eff.av=.junk)):=by
  intro hv
  split at hv
  ·rename_i obl' x hx
   simp only[Option.some.injEq,Prod.mk.injEq] at hv
   obtain⟨rfl,rfl⟩:=hv
   obtain⟨z,h1,h2⟩:=valF_ok hT h he hx ho
   exact⟨_,w,ρ,h1,h,.inl ⟨z,rfl,h2⟩⟩
  ·cases hv
 obtain⟨dst,op,type,pos,after,guard⟩:=o
 simp only at he hf hval
 unfold effF effG at hf
 split at hf
 ·rename_i t
  split at hf
  ·rename_i ti ht hk
   split at hf
   ·rename_i x o hn
    simp only[Option.some.injEq,Prod.mk.injEq] at hf
    obtain⟨rfl,rfl⟩:=hf
    obtain⟨z,hz,hzc⟩:=(hT t ti ht).run_zero w
    obtain⟨ρ',h1,h2⟩:=newObj_ok h hn hk (arr:=z.cells) (by rw[hzc];simp) (fun i y hy=>by
     simp only[List.getElem?_map,Option.map_eq_some_iff] at hy
     obtain⟨v,hv,rfl⟩:=hy
     have:z.cells.getD i undef=v:=by rw[hzc];simp[hv]
     rw[this];exact .c)
    exact⟨.value (.pointer (some ⟨w.heap.size,0,none⟩)),w.alloc (.cells z.cells t),ρ',by simp[execOp,Instr.alloc,hz,newVar,newRow],by rw[app_none];exact h1,.inl ⟨_,rfl,h2⟩⟩
   ·cases hf
  ·cases hf
 ·rename_i t x
  split at hf
  ·rename_i l hl hk
   split at hf
   ·rename_i y o hn
    simp only[Option.some.injEq,Prod.mk.injEq] at hf
    obtain⟨rfl,rfl⟩:=hf
    obtain⟨hs,hr⟩:=h.cells hl (he x (by simp[Op.operands]))
    obtain⟨ρ',h1,h2⟩:=newObj_ok h hn hk (arr:=(a.eval x).cells) hs hr
    exact⟨.value (.pointer (some ⟨w.heap.size,0,none⟩)),w.alloc (.cells (a.eval x).cells t),ρ',by simp[execOp,Instr.box,newVar,newRow],by rw[app_none];exact h1,.inl ⟨_,rfl,h2⟩⟩
   ·cases hf
  ·cases hf
 ·rename_i t len parts
  split at hf
  ·rename_i el sz l hb
   obtain⟨arr,h1,h2,h3,h4,h5⟩:=bs_run hT h (fun p hp=>he p.2 (by simp[Op.operands];exact⟨p.1,by simpa using hp⟩)) hb
   cases hks:AV.ksL (fun _=>false) l with
   |false=>simp[hks] at hf
   |true=>
    simp only[hks,cond_true] at hf
    cases hmd:st.md d with
    |true=>
     simp only[hmd,cond_true] at hf
     split at hf
     ·rename_i hk
      simp only[Option.some.injEq,Prod.mk.injEq] at hf
      obtain⟨rfl,rfl⟩:=hf
      have h6:=h.allocRow (n:=len) (cap:=len) (sz:=sz) (f:=rowOf l sz) (e:=el) (arr:=arr) hk (Nat.le_refl _) (by simp only[maxLen];omega) (by omega) (fun i hi=>rowOf_length h3 hi) (fun i j y hi hy=>by
       obtain⟨_,hy'⟩:=rowOf_get hy
       exact(h5 _ y hy').free (AV.ksL_at hks hy'))
      exact⟨_,_,_,by simp only[execOp];rw[Sem.run_bind,h1];rfl,h6,.inl ⟨_,rfl,.vec (upd_same _ _ _)⟩⟩
     ·cases hf
    |false=>
     simp only[hmd,cond_false,Option.some.injEq,Prod.mk.injEq] at hf
     obtain⟨rfl,rfl⟩:=hf
     have hkeep:Keep (fun _=>False) w (w.alloc (.cells arr el)):=Keep.of_below ((Go.RowKit.Below.refl _ _).alloc (Nat.le_refl _) _) (Nat.le_refl _)
     have hc:=h.called hkeep
     refine⟨_,_,ρ,by simp only[execOp];rw[Sem.run_bind,h1];rfl,hc,.inl ⟨_,rfl,R.rs_mk (A:=some ⟨w.heap.size,0,none⟩) (Nat.le_refl _) (by simp only[maxLen];omega) (fun i hi=>rowOf_length h3 hi) fun _=>⟨_,rfl,⟨.inr (.inl h.keep.size),by simp,fun k x hx hb'=>?_⟩,fun i hi j y hy=>?_⟩⟩⟩
     ·exact absurd (h.lt hx hb') (Nat.lt_irrefl _)
     ·obtain⟨hj,hy'⟩:=rowOf_get hy
      have hlt:i*sz+j<arr.size:=by rw[h2];exact(List.getElem?_eq_some_iff.1 hy').1
      refine⟨arr.getD (i*sz+j) undef,?_,?_⟩
      ·rw[add_add,Addr.add_lit,Nat.zero_add,World.cell?_alloc_new]
       simp[hlt]
      ·have hG:∀b,E.good w ρ b→E.good (w.alloc (.cells arr el)) ρ b∧(w.alloc (.cells arr el)).heap[b]?=w.heap[b]?:=fun b ⟨q0,q1,q2⟩=>⟨⟨q0,Nat.lt_of_lt_of_le q1 hkeep.size,q2⟩,hkeep.block b q1 id⟩
       exact((h5 _ y hy').tr hG _ (Le.refl _)).free (AV.ksL_at hks hy')
  ·cases hf
 ·rename_i t x y
  split at hf
  ·rename_i hk
   obtain⟨z,w',ρ',o,h1,h2,h3,h4⟩:=make_ok hT h hf ho hk (he x (by simp[Op.operands])) (he y (by simp[Op.operands]))
   obtain⟨av,ob⟩:=eff
   simp only at h2
   subst h2
   exact⟨_,w',ρ',by simp[execOp,h1],by rw[app_none];exact h3,.inl ⟨z,rfl,h4⟩⟩
  ·cases hf
 ·rename_i t x y
  split at hf
  ·rename_i k o hs
   simp only[Option.some.injEq,Prod.mk.injEq] at hf
   obtain⟨rfl,rfl⟩:=hf
   obtain⟨w',h1,h2⟩:=storeF_ok hT h hs (he x (by simp[Op.operands])) (he y (by simp[Op.operands]))
   exact⟨_,w',ρ,by simp[execOp,h1],by rw[app_none];exact h2,.inr ⟨rfl,rfl⟩⟩
  ·cases hf
 ·rename_i t
  split at hf
  ·rename_i hk
   obtain⟨z,w',ρ',o,h1,h2,h3,h4⟩:=makeMap_ok h hf hk
   obtain⟨av,ob⟩:=eff
   simp only at h2
   subst h2
   exact⟨_,w',ρ',by simp[execOp,h1],by rw[app_none];exact h3,.inl ⟨z,rfl,h4⟩⟩
  ·cases hf
 ·rename_i t x i ok
  split at hf
  ·rename_i obl' r hl
   simp only[Option.some.injEq,Prod.mk.injEq] at hf
   obtain⟨rfl,rfl⟩:=hf
   obtain⟨z,h1,h2⟩:=look_ok hT h hl (he x (by simp[Op.operands])) (he i (by simp[Op.operands]))
   exact⟨_,w,ρ,by simp[execOp,h1],h,.inl ⟨z,rfl,h2⟩⟩
  ·cases hf
 ·rename_i t m i x
  split at hf
  ·rename_i k o hs
   simp only[Option.some.injEq,Prod.mk.injEq] at hf
   obtain⟨rfl,rfl⟩:=hf
   obtain⟨w',h1,h2⟩:=mput_ok hT h hs (he m (by simp[Op.operands])) (he i (by simp[Op.operands])) (he x (by simp[Op.operands]))
   exact⟨_,w',ρ,by simp[execOp,h1],by rw[app_none];exact h2,.inr ⟨rfl,rfl⟩⟩
  ·cases hf
 ·rename_i t m i x
  split at hf
  ·rename_i k o hs
   simp only[Option.some.injEq,Prod.mk.injEq] at hf
   obtain⟨rfl,rfl⟩:=hf
   obtain⟨w',h1,h2⟩:=mput_ok hT h hs (he m (by simp[Op.operands])) (he i (by simp[Op.operands])) (he x (by simp[Op.operands]))
   exact⟨_,w',ρ,by simp[execOp,h1],by rw[app_none];exact h2,.inr ⟨rfl,rfl⟩⟩
  ·cases hf
 ·rename_i c
  split at hf
  ·rename_i s x t t' c1 c2 c3
   cases hb:Nat.beq t t' with
   |false=>simp[hb] at hf
   |true=>
    have:=Nat.eq_of_beq_eq_true hb
    subst this
    simp only[hb,cond_true] at hf
    obtain⟨callee,args,argTypes⟩:=c
    simp only at c1 c2 c3
    subst c1
    have hargs:args=#[s,x]:=by rw[←Array.toList_inj];simpa using c2
    have htys:argTypes=#[t,t]:=by rw[←Array.toList_inj];simpa using c3
    subst hargs htys
    obtain⟨z,w',ρ',k',o,h1,h2,h3,h4⟩:=append_ok (ty:=type) hT h hf ho (he s (by simp[Op.operands,Call.operands])) (he x (by simp[Op.operands,Call.operands]))
    obtain⟨av,ob⟩:=eff
    simp only at h2
    subst h2
    exact⟨_,w',ρ',by simp[execOp,resolve,invoke,builtin,h1],by rw[app_none];exact h3,.inl ⟨z,rfl,h4⟩⟩
  ·rename_i s x t t' c1 c2 c3
   cases hb:Nat.beq t t' with
   |false=>simp[hb] at hf
   |true=>
    have:=Nat.eq_of_beq_eq_true hb
    subst this
    simp only[hb,cond_true] at hf
    obtain⟨callee,args,argTypes⟩:=c
    simp only at c1 c2 c3
    subst c1
    have hargs:args=#[s,x]:=by rw[←Array.toList_inj];simpa using c2
    have htys:argTypes=#[t,t]:=by rw[←Array.toList_inj];simpa using c3
    subst hargs htys
    obtain⟨z,w',k',o,h1,h2,h3,h4⟩:=copy_ok (ty:=type) hT h hf ho (he s (by simp[Op.operands,Call.operands])) (he x (by simp[Op.operands,Call.operands]))
    obtain⟨av,ob⟩:=eff
    simp only at h2
    subst h2
    exact⟨_,w',ρ,by simp[execOp,resolve,invoke,builtin,h1],by rw[app_none];exact h3,.inl ⟨z,rfl,h4⟩⟩
  ·exact hval hf
 ·exact hval hf
def constIs (b:Bool):Operand→Bool
 |.const (.bool c)=>c==b
 |_=>false
def pickF (st:ST) (gc:Option Bool) (c x y:Operand):Option (List Prop×AV):=
 match strip (st.ev c) with
 |.c (.bool b)=>
  bif constIs true x then(match strip (st.ev y) with
   |.c (.bool v)=>some (oblG gc (st.ev c)++(match st.ev y with|.gd g _=>[impG gc (b=false→g=true)]|_=>[]),.c (.bool (b||v)))
   |_=>none)
  else bif constIs false y then(match strip (st.ev x) with
   |.c (.bool u)=>some (oblG gc (st.ev c)++(match st.ev x with|.gd g _=>[impG gc (b=true→g=true)]|_=>[]),.c (.bool (b&&u)))
   |_=>none)
  else(match strip (st.ev x),strip (st.ev y) with
   |.c (.bool u),.c (.bool v)=>some (oblG gc (st.ev c)++((match st.ev x with|.gd g _=>[impG gc (b=true→g=true)]|_=>[])++(match st.ev y with|.gd g _=>[impG gc (b=false→g=true)]|_=>[])),.c (.bool (bif b then u else v)))
   |_,_=>none)
 |_=>none
theorem constIs_eval {b:Bool} {x:Operand} (h:constIs b x=true) (a:Act):a.eval x=.bool b:=by
 cases x with
 |const v=>cases v<;>simp_all [constIs,Act.eval]
 |_=>simp[constIs] at h
theorem strip_ok {w:World} {G:Nat→Prop} {ρ:Rho} {x:AV} {v:Value} {gc:Option Bool} (hgc:∀g,gc=some g→g=true) (ho:∀p∈oblG gc x,p) (h:R w G ρ x v):R w G ρ (strip x) v:=by
 cases x with
 |gd g a=>
  have:impG gc (g=true):=ho _ (by simp[oblG])
  have hg:g=true:=by
   cases gc with
   |none=>exact this
   |some g'=>exact this (hgc g' rfl)
  exact h.gd_inv.1 hg
 |_=>exact h
theorem strip_of {w:World} {G:Nat→Prop} {ρ:Rho} {x:AV} {v:Value} (hg:∀g a,x=.gd g a→g=true) (h:R w G ρ x v):R w G ρ (strip x) v:=by
 cases x with
 |gd g a=>exact h.gd_inv.1 (hg g a rfl)
 |_=>exact h
theorem pickF_ok (h:SatR E st a w ρ) {o:Oper} {c x y:Operand} (hop:o.op=.pick c x y) {gc:Option Bool} {obl:List Prop} {r:AV} (hgc:∀g,gc=some g→g=true)
  (hp:pickF st gc c x y=some (obl,r)) (ho:∀p∈obl,p):∃z,(execOp a.eval o).run E.P w=.ok (.value z) w∧R w (E.good w ρ) ρ r z:=by
 have fin:∀b,a.eval c=.bool b→(execOp a.eval o).run E.P w=.ok (.value (if b then a.eval x else a.eval y)) w:=by
  intro b hb
  simp[execOp,hop,hb,asBool]
 have un:∀{p:Prop},impG gc p→p:=by
  intro p hi
  cases gc with
  |none=>exact hi
  |some g=>exact hi (hgc g rfl)
 unfold pickF at hp
 split at hp
 ·rename_i b hc
  have hcb:∀l,(∀p∈oblG gc (st.ev c)++l,p)→a.eval c=.bool b:=fun l hl=>by
   have hcv:=strip_ok hgc (fun p hp=>hl p (List.mem_append_left _ hp)) (h.ev c)
   rw[hc] at hcv
   exact hcv.c_inv
  cases h1:constIs true x with
  |true=>
   simp only[h1,cond_true] at hp
   split at hp
   ·rename_i v hv
    simp only[Option.some.injEq,Prod.mk.injEq] at hp
    obtain⟨rfl,rfl⟩:=hp
    refine⟨_,fin b (hcb _ ho),?_⟩
    cases b with
    |true=>rw[if_pos rfl,constIs_eval h1];exact .c
    |false=>
     have:=strip_of (fun g' a' he=>un (ho (impG gc (false=false→g'=true)) (List.mem_append_right _ (by rw[he];simp))) rfl) (h.ev y)
     rw[hv] at this
     simpa using this
   ·cases hp
  |false=>
   simp only[h1,cond_false] at hp
   cases h2:constIs false y with
   |true=>
    simp only[h2,cond_true] at hp
    split at hp
    ·rename_i u hu
     simp only[Option.some.injEq,Prod.mk.injEq] at hp
     obtain⟨rfl,rfl⟩:=hp
     refine⟨_,fin b (hcb _ ho),?_⟩
     cases b with
     |false=>rw[if_neg (by simp),constIs_eval h2];exact .c
     |true=>
      have:=strip_of (fun g' a' he=>un (ho (impG gc (true=true→g'=true)) (List.mem_append_right _ (by rw[he];simp))) rfl) (h.ev x)
      rw[hu] at this
      simpa using this
    ·cases hp
   |false=>
    simp only[h2,cond_false] at hp
    split at hp
    ·rename_i u v hu hv
     simp only[Option.some.injEq,Prod.mk.injEq] at hp
     obtain⟨rfl,rfl⟩:=hp
     refine⟨_,fin b (hcb _ ho),?_⟩
     cases b with
     |true=>
      have:=strip_of (fun g' a' he=>un (ho (impG gc (true=true→g'=true)) (List.mem_append_right _ (List.mem_append_left _ (by rw[he];simp)))) rfl) (h.ev x)
      rw[hu] at this
      simpa using this
     |false=>
      have:=strip_of (fun g' a' he=>un (ho (impG gc (false=false→g'=true)) (List.mem_append_right _ (List.mem_append_right _ (by rw[he];simp)))) rfl) (h.ev y)
      rw[hv] at this
      simpa using this
    ·cases hp
 ·cases hp
def gval (st:ST) (l:List Oper) (j:Nat) (pol:Bool):Option Bool:=
 match l[j]? with
 |some o=>match o.dst with
  |some d=>match st.fr d with
   |.c (.bool b)=>(match pol with
    |true=>some b
    |false=>some (!b))
   |.gd g (.c (.bool b))=>(match pol with
    |true=>some (g&&b)
    |false=>some (g&&!b))
   |_=>none
  |none=>none
 |none=>none
theorem gval_ok (h:SatR E st a w ρ) {ops:Array Oper} {j:Nat} {pol g:Bool} (hg:gval st ops.toList j pol=some g) (hd:∀o d,ops[j]?=some o→o.dst=some d→d<st.nt):
  (yielded ops a.tmps j==some pol)=g:=by
 unfold gval at hg
 split at hg
 ·rename_i o ho
  split at hg
  ·rename_i d hdst
   have ho':ops[j]?=some o:=by simpa using ho
   have hlt:d<a.tmps.size:=h.tsz▸hd o d ho' hdst
   have hfr:=h.fr d
   have hy:yielded ops a.tmps j=match a.tmps.getD d undef with|.bool b=>some b|_=>none:=by
    simp only[yielded,ho',Option.bind_some,hdst]
    simp[hlt]
    split<;>simp_all
   split at hg
   ·rename_i b hb
    rw[hb] at hfr
    rw[hy,hfr.c_inv]
    cases pol<;>simp only[Option.some.injEq] at hg<;>subst hg<;>cases b<;>rfl
   ·rename_i g' b hb
    rw[hb] at hfr
    obtain⟨h1,h2⟩:=hfr.gd_inv
    rw[hy]
    cases g' with
    |true=>rw[(h1 rfl).c_inv];cases pol<;>simp only[Option.some.injEq] at hg<;>subst hg<;>cases b<;>rfl
    |false=>rw[h2 rfl];cases pol<;>simp only[Option.some.injEq] at hg<;>subst hg<;>rfl
   ·cases hg
  ·cases hg
 ·cases hg
def stepG (T:TE) (l:List Oper) (st:ST) (k:Nat) (o:Oper):Option (List Prop×Eff):=
 match o.guard with
 |none=>match o.op with
  |.pick c x y=>match pickF st none c x y with
   |some (obl,r)=>some (obl,⟨r,none⟩)
   |none=>none
  |op=>match effG T st (o.dst.getD 0) k (fun x=>strip (st.ev x)) op with
   |some (obl,eff)=>some (op.operands.toList.flatMap (fun x=>oblG none (st.ev x))++obl,eff)
   |none=>none
 |some (j,pol)=>match gval st l j pol with
  |some g=>match o.op with
   |.pick c x y=>match pickF st (some g) c x y with
    |some (obl,r)=>some (obl,⟨.gd g r,none⟩)
    |none=>none
   |op=>match effG T st (o.dst.getD 0) k (fun x=>strip (st.ev x)) op with
    |some (obl,⟨x,none⟩)=>some (op.operands.toList.flatMap (fun x=>oblG (some g) (st.ev x))++obl.map (impG (some g)),⟨.gd g x,none⟩)
    |_=>none
  |none=>none
def stepF (T:TE) (l:List Oper) (st:ST) (o:Oper):Option (List Prop×Eff):=stepG T l st (st.nx+o.dst.getD 0) o
def stepN (T:TE) (l:List Oper) (fr:Nat→AV) (ob:Nat→Option Ob) (nx nt:Nat) (md:Nat→Bool) (o:Oper):Option (List Prop×Eff):=match(match o.dst with
  |some d=>stepG T l ⟨fr,ob,nx,nt,md⟩ (nx+d) o
  |none=>stepG T l ⟨fr,ob,nx,nt,md⟩ nx o) with
 |some (obl,e)=>match frcP obl with
  |some obl'=>some (obl',e)
  |none=>none
 |none=>none
theorem stepN_eq {T:TE} {l:List Oper} {fr:Nat→AV} {ob:Nat→Option Ob} {nx nt:Nat} {md:Nat→Bool} {o:Oper}:stepN T l fr ob nx nt md o=stepF T l ⟨fr,ob,nx,nt,md⟩ o:=by
 have key:∀r:Option (List Prop×Eff),(match r with
  |some (obl,e)=>(match frcP obl with
   |some obl'=>some (obl',e)
   |none=>none)
  |none=>none)=r:=fun r=>by
  cases r with
  |none=>rfl
  |some x=>simp[frcP_self]
 unfold stepN stepF
 rw[key]
 cases h:o.dst<;>rfl
theorem defer_run {P:Program} {o:Oper} {ρ:Operand→Value} {c:Call} {w w':World} {n:Next} (ho:o.op=.defer c) (h:(execOp ρ o).run P w=.ok n w'):∃d,n=.defer d:=by
 simp only[execOp,ho,Sem.run_bind] at h
 cases hr:(resolve ρ c o.type).run P w with
 |ok d w1=>
  rw[hr] at h
  simp[Result.andThen] at h
  exact⟨_,h.1.symm⟩
 |halt x w1=>
  rw[hr] at h
  simp[Result.andThen] at h
theorem wpIn_run {rd:Option Nat} {P:Program} {o:Oper} {a:Act} {w w':World} {n:Next} {next:Act→World→Prop} {Q:Exit→Act→World→Prop} (h1:(execOp a.eval o).run P w=.ok n w') (hn:∀d,n≠.defer d)
  (h:o.uponIn (FW rd) 0 P a next Q (.ok n w')):o.wpIn (FW rd) 0 P a w next Q:=by
 refine⟨fun _ _=>trivial,?_⟩
 rw[Oper.semAt_eq _ _ _ (fun c hc=>by obtain⟨d,hd⟩:=defer_run hc h1;exact hn d hd),h1]
 exact h
theorem Calls.fw {P:Program} {f:FuncId} {vs:Array Value} {w:World} {R:Ending→World→Prop} (h:Calls P f vs w R) (rd:Option Nat) (n:Nat):CallsIn (FW rd) n P f vs w R:=
 (callsIn_wide (n:=n)).2 h
def StepTo (E:Env) (ops:Array Oper) (o:Oper) (st st':ST):Prop:=
 ∀a w,Sat E st a w→∀Q,if Region.wanted o (yielded ops a.tmps) then o.wpIn (FW E.rd) 0 E.P a w (fun a' w'=>Sat E st' a' w') Q else Sat E st' (a.put o.dst undef) w
def dstOk (st:ST) (o:Oper):Bool:=match o.dst with
 |some d=>Nat.blt d st.nt
 |none=>true
theorem SatR.put_app {eff:Eff} {dst:Option Nat} (h:SatR E (st.app none eff) a w ρ) (hd:∀d,dst=some d→d<st.nt) {v:Value} (hr:R w (E.good w ρ) ρ eff.av v):SatR E (st.app dst eff) (a.put dst v) w ρ:=by
 cases dst with
 |none=>exact h
 |some d=>
  have:=h.put (d:=d) (x:=eff.av) (hd d rfl) hr
  exact this
theorem dstOk_lt {o:Oper} (h:dstOk st o=true):∀d,o.dst=some d→d<st.nt:=by
 intro d hd
 simp only[dstOk,hd] at h
 exact Nat.lt_of_succ_le (Nat.le_of_ble_eq_true h)
theorem stepF_ok (hT:TOk E.P T) {ops:Array Oper} {o:Oper} {obl:List Prop} {eff:Eff} (hs:stepF T ops.toList st o=some (obl,eff)) (ho:∀p∈obl,p) (hd:dstOk st o=true)
  (hg:∀j pol o' d,o.guard=some (j,pol)→ops[j]?=some o'→o'.dst=some d→d<st.nt):StepTo E ops o st (st.app o.dst eff):=by
 intro a w ⟨ρ,h⟩ Q
 have hdl:=dstOk_lt hd
 unfold stepF stepG at hs
 split at hs
 ·rename_i hgd
  have hw:Region.wanted o (yielded ops a.tmps)=true:=by simp[Region.wanted,hgd]
  rw[if_pos hw]
  split at hs
  ·rename_i c x y hop
   split at hs
   ·rename_i obl' r hp
    simp only[Option.some.injEq,Prod.mk.injEq] at hs
    obtain⟨rfl,rfl⟩:=hs
    obtain⟨z,h1,h2⟩:=pickF_ok h hop (fun g hg=>by cases hg) hp ho
    refine wpIn_run h1 (fun _ e=>by cases e) ?_
    exact⟨ρ,SatR.put_app (eff:=⟨r,none⟩) (dst:=o.dst) h hdl h2⟩
   ·cases hs
  ·split at hs
   ·rename_i obl' eff' he
    simp only[Option.some.injEq,Prod.mk.injEq] at hs
    obtain⟨rfl,rfl⟩:=hs
    obtain⟨n,w',ρ',h1,h2,h3⟩:=effF_ok hT h (fun x hx=>strip_ok (gc:=none) (fun g hg=>by cases hg) (fun p hp=>ho p (List.mem_append_left _ (List.mem_flatMap.2 ⟨x,by simpa using hx,hp⟩))) (h.ev x)) he (fun p hp=>ho p (List.mem_append_right _ hp))
    rcases h3 with⟨z,rfl,hz⟩|⟨rfl,hj⟩<;>refine wpIn_run h1 (fun _ e=>by cases e) ?_
    ·exact⟨ρ',SatR.put_app (dst:=o.dst) h2 hdl hz⟩
    ·exact⟨ρ',SatR.put_app (dst:=o.dst) h2 hdl (by rw[hj];exact .junk)⟩
   ·cases hs
 ·rename_i j pol hgd
  split at hs
  ·rename_i g hgv
   have hwv:Region.wanted o (yielded ops a.tmps)=g:=by
    have:=gval_ok h hgv (fun o' d h1 h2=>hg j pol o' d hgd h1 h2)
    simp only[Region.wanted,hgd,this]
   cases hgb:g with
   |false=>
    subst hgb
    rw[if_neg (by rw[hwv];simp)]
    have key:∀x,SatR E (st.app o.dst ⟨.gd false x,none⟩) (a.put o.dst undef) w ρ:=fun x=>
     SatR.put_app (eff:=⟨.gd false x,none⟩) (dst:=o.dst) h hdl (.gd (fun e=>by cases e) fun _=>rfl)
    split at hs
    ·split at hs
     ·simp only[Option.some.injEq,Prod.mk.injEq] at hs
      obtain⟨rfl,rfl⟩:=hs
      exact⟨ρ,key _⟩
     ·cases hs
    ·split at hs
     ·simp only[Option.some.injEq,Prod.mk.injEq] at hs
      obtain⟨rfl,rfl⟩:=hs
      exact⟨ρ,key _⟩
     ·cases hs
   |true=>
    subst hgb
    rw[if_pos hwv]
    split at hs
    ·rename_i c x y hop
     split at hs
     ·rename_i obl' r hp
      simp only[Option.some.injEq,Prod.mk.injEq] at hs
      obtain⟨rfl,rfl⟩:=hs
      obtain⟨z,h1,h2⟩:=pickF_ok h hop (fun g hg=>by injection hg with hg;exact hg.symm) hp ho
      refine wpIn_run h1 (fun _ e=>by cases e) ?_
      exact⟨ρ,SatR.put_app (eff:=⟨.gd true r,none⟩) (dst:=o.dst) h hdl (.gd (fun _=>h2) fun e=>by cases e)⟩
     ·cases hs
    ·split at hs
     ·rename_i obl' x he
      simp only[Option.some.injEq,Prod.mk.injEq] at hs
      obtain⟨rfl,rfl⟩:=hs
      obtain⟨n,w',ρ',h1,h2,h3⟩:=effF_ok hT h (fun x hx=>strip_ok (gc:=some true) (fun g hg=>by injection hg with hg;exact hg.symm) (fun p hp=>ho p (List.mem_append_left _ (List.mem_flatMap.2 ⟨x,by simpa using hx,hp⟩))) (h.ev x)) he
       (fun p hp=>ho (impG (some true) p) (List.mem_append_right _ (List.mem_map.2 ⟨p,hp,rfl⟩)) rfl)
      rcases h3 with⟨z,rfl,hz⟩|⟨rfl,hj⟩<;>refine wpIn_run h1 (fun _ e=>by cases e) ?_
      ·exact⟨ρ',SatR.put_app (eff:=⟨.gd true x,none⟩) (dst:=o.dst) h2 hdl (.gd (fun _=>hz) fun e=>by cases e)⟩
      ·exact⟨ρ',SatR.put_app (eff:=⟨.gd true x,none⟩) (dst:=o.dst) h2 hdl (.gd (fun _=>by simp only at hj;rw[hj];exact .junk) fun e=>by cases e)⟩
     ·cases hs
  ·cases hs
end
end Go.Eng
end
