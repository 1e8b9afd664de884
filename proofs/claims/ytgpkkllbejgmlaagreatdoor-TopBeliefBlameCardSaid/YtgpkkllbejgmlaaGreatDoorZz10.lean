import Derived.Test.YtgpkkllbejgmlaaGreatDoorZz9
import Derived.Laws.StructEq
set_option linter.unusedSimpArgs false
set_option linter.unusedVariables false
section
namespace Go.Eng
def eqFsF (g:TypeId→Option (List TK)):List Field→Nat→Option (List TK)
 |[],_=>some []
 |f::fs,off=>if f.name≠ "_" ∧f.offset=off then
   match g f.type with
   |some ks=>match eqFsF g fs (off+ks.length) with
    |some ks'=>some (ks++ks')
    |none=>none
   |none=>none
  else none
def eqTF (P:Program) (T:TE):Nat→TypeId→Option (List TK)
 |0,_=>none
 |n+1,t=>match T.find t with
  |some ti=>match ti.kind with
   |.int k=>some [.int k]
   |.bool=>some [.bool]
   |.string=>some [.string]
   |.struct _ _=>if P.stoodInHeld t=false then match eqFsF (eqTF P T n) (P.fieldsOf t).toList 0 with
     |some ks=>if ti.size=ks.length then some ks else none
     |none=>none
    else none
   |_=>none
  |none=>none
theorem cellsEq_cons {k:TK} {ks:List TK} {xs ys:List Value} {b:Bool} (h:cellsEq (k::ks) xs ys=some b):∃x xs' y ys' a b',xs=x::xs'∧ys=y::ys'∧cellEq k x y=some a∧cellsEq ks xs' ys'=some b'∧b=(a&&b'):=by
 match ks,xs,ys with
 |[],[x],[y]=>exact⟨x,[],y,[],b,true,rfl,rfl,h,rfl,by simp⟩
 |[],x::x2::xs,y::ys=>
  simp only[cellsEq] at h
  split at h
  ·rename_i h1 h2
   simp at h2
  ·cases h
 |[],[x],y::y2::ys=>
  simp only[cellsEq] at h
  split at h
  ·rename_i h1 h2
   simp at h2
  ·cases h
 |k2::ks,x::xs,y::ys=>
  simp only[cellsEq] at h
  split at h
  ·rename_i h1 h2
   injection h with h
   exact⟨x,xs,y,ys,_,_,rfl,rfl,h1,h2,h.symm⟩
  ·cases h
 |ks,[],ys=>cases ks<;>simp[cellsEq] at h
 |ks,x::xs,[]=>cases ks<;>cases xs<;>simp[cellsEq] at h
theorem cellsEq_app:∀{ks ks':List TK} {xs ys:List Value} {b:Bool},cellsEq (ks++ks') xs ys=some b→
  ∃x1 x2 y1 y2 b1 b2,xs=x1++x2∧ys=y1++y2∧x1.length=ks.length∧y1.length=ks.length∧cellsEq ks x1 y1=some b1∧cellsEq ks' x2 y2=some b2∧b=(b1&&b2)
 |[],ks',xs,ys,b,h=>⟨[],xs,[],ys,true,b,rfl,rfl,rfl,rfl,rfl,h,by simp⟩
 |k::ks,ks',xs,ys,b,h=>by
  obtain⟨x,xs',y,ys',a,b',rfl,rfl,h1,h2,rfl⟩:=cellsEq_cons h
  obtain⟨x1,x2,y1,y2,b1,b2,rfl,rfl,l1,l2,h3,h4,rfl⟩:=cellsEq_app h2
  refine⟨x::x1,x2,y::y1,y2,a&&b1,b2,rfl,rfl,by simp[l1],by simp[l2],?_,h4,by simp[Bool.and_assoc]⟩
  cases ks with
  |nil=>
   match x1,y1,l1,l2 with
   |[],[],_,_=>
    simp[cellsEq] at h3
    subst h3
    simp[cellsEq,h1]
  |cons k2 ks=>
   simp only[cellsEq,h1,h3]
theorem eqTF_ok {P:Program} {T:TE} (hT:TOk P T):∀(n:Nat) (t:TypeId) (ks:List TK),eqTF P T n t=some ks→
  (∃k ti,T.find t=some ti∧ti.kind.agg=false∧ks=[k]∧∀d x y b w,n≤d→cellEq k x y=some b→(Op.equalIn d t x y).run P w=.ok b w)∨
  (∃ti,T.find t=some ti∧ti.kind.agg=true∧ti.size=ks.length∧∀d xs ys b w,n≤d→cellsEq ks xs ys=some b→(Op.equalIn d t (.agg xs.toArray) (.agg ys.toArray)).run P w=.ok b w)
 |0,_,_,h=>by cases h
 |n+1,t,ks,h=>by
  simp only[eqTF] at h
  split at h
  case h_2=>cases h
  rename_i ti ht
  have hk:=(hT t ti ht).kind
  split at h
  ·rename_i k hkd
   injection h with h
   subst h
   rw[hkd] at hk
   refine .inl ⟨_,ti,ht,by rw[hkd];rfl,rfl,fun d x y b w hd hc=>?_⟩
   obtain⟨d,rfl⟩:∃d',d=d'+1:=⟨d-1,by omega⟩
   cases x<;>cases y<;>simp only[cellEq] at hc<;>try (cases hc;done)
   split at hc
   ·rename_i he
    obtain⟨rfl,rfl⟩:=he
    injection hc with hc
    subst hc
    exact run_equalIn_int w d t _ _ _ _ hk
   ·cases hc
  ·rename_i hkd
   injection h with h
   subst h
   rw[hkd] at hk
   refine .inl ⟨_,ti,ht,by rw[hkd];rfl,rfl,fun d x y b w hd hc=>?_⟩
   obtain⟨d,rfl⟩:∃d',d=d'+1:=⟨d-1,by omega⟩
   cases x<;>cases y<;>simp only[cellEq] at hc<;>try (cases hc;done)
   injection hc with hc
   subst hc
   exact run_equalIn_bool' w d t _ _ hk
  ·rename_i hkd
   injection h with h
   subst h
   rw[hkd] at hk
   refine .inl ⟨_,ti,ht,by rw[hkd];rfl,rfl,fun d x y b w hd hc=>?_⟩
   obtain⟨d,rfl⟩:∃d',d=d'+1:=⟨d-1,by omega⟩
   cases x<;>cases y<;>simp only[cellEq] at hc<;>try (cases hc;done)
   injection hc with hc
   subst hc
   rw[beq_toListBytes]
   exact run_equalIn_string w d t _ _ hk
  ·rename_i pl ty hkd
   split at h
   case isFalse=>cases h
   rename_i hst
   split at h
   case h_2=>cases h
   rename_i ks0 hfs
   split at h
   case isFalse=>cases h
   rename_i hsz
   injection h with h
   subst h
   rw[hkd] at hk
   obtain⟨fs,hu,_,_⟩:=hk
   have hu':P.underlying t=some (.struct (P.fieldsOf t)):=by simp[Program.fieldsOf,hu]
   refine .inr ⟨ti,ht,by rw[hkd];rfl,hsz,fun d xs ys b w hd hc=>?_⟩
   obtain⟨d,rfl⟩:∃d',d=d'+1:=⟨d-1,by omega⟩
   rw[run_equalIn_struct w d t _ _ hu' hst]
   have key:∀(l:List Field) (off:Nat) (ks:List TK) (xp xs yp ys:List Value) (b:Bool),eqFsF (eqTF P T n) l off=some ks→xp.length=off→yp.length=off→cellsEq ks xs ys=some b→
     (Op.eqFields d (xp++xs).toArray (yp++ys).toArray l).run P w=.ok b w:=by
    intro l
    induction l with
    |nil=>
     intro off ks xp xs yp ys b hf hx hy hc
     simp only[eqFsF,Option.some.injEq] at hf
     subst hf
     match xs,ys with
     |[],[]=>
      simp[cellsEq] at hc
      subst hc
      simp[Op.eqFields]
     |_::_,_=>simp[cellsEq] at hc
     |[],_::_=>simp[cellsEq] at hc
    |cons f l ih=>
     intro off ks xp xs yp ys b hf hx hy hc
     simp only[eqFsF] at hf
     split at hf
     case isFalse=>cases hf
     rename_i hno
     split at hf
     case h_2=>cases hf
     rename_i k1 hk1
     split at hf
     case h_2=>cases hf
     rename_i k2 hk2
     injection hf with hf
     subst hf
     obtain⟨x1,x2,y1,y2,b1,b2,rfl,rfl,l1,l2,h3,h4,rfl⟩:=cellsEq_app hc
     have hrest:(Op.eqFields d (xp++(x1++x2)).toArray (yp++(y1++y2)).toArray l).run P w=.ok b2 w:=by
      rw[←List.append_assoc,←List.append_assoc]
      exact ih (off+k1.length) k2 (xp++x1) x2 (yp++y1) y2 b2 hk2 (by simp[hx,l1]) (by simp[hy,l2]) h4
     have hfst:∃p q,(part f.type (xp++(x1++x2)).toArray f.offset).run P w=.ok p w∧(part f.type (yp++(y1++y2)).toArray f.offset).run P w=.ok q w∧(Op.equalIn d f.type p q).run P w=.ok b1 w:=by
      rcases eqTF_ok hT n f.type k1 hk1 with⟨k,tj,hj,ha,rfl,he⟩|⟨tj,hj,ha,hs,he⟩
      ·match x1,y1,l1,l2 with
       |[x],[y],_,_=>
        refine⟨x,y,?_,?_,he d x y b1 w (by omega) (by simpa[cellsEq] using h3)⟩
        ·simp[part,(hT _ _ hj).run_isAgg w,ha,hno.2,←hx]
        ·simp[part,(hT _ _ hj).run_isAgg w,ha,hno.2,←hy]
      ·refine⟨.agg x1.toArray,.agg y1.toArray,?_,?_,he d x1 y1 b1 w (by omega) h3⟩
       ·simp only[part,Sem.run_bind,(hT _ _ hj).run_isAgg w,ha,(hT _ _ hj).run_sizeOf w,Result.andThen_ok,if_true,Sem.run_pure,hno.2,hs]
        congr 2
        apply Array.toList_inj.1
        simp[←hx,←l1]
       ·simp only[part,Sem.run_bind,(hT _ _ hj).run_isAgg w,ha,(hT _ _ hj).run_sizeOf w,Result.andThen_ok,if_true,Sem.run_pure,hno.2,hs]
        congr 2
        apply Array.toList_inj.1
        simp[←hy,←l2]
     obtain⟨p,q,hp,hq,hr⟩:=hfst
     simp only[Op.eqFields,hno.1,ne_eq,not_false_eq_true,if_true,Sem.run_bind,hp,hq,hr,Result.andThen_ok,Sem.run_ite]
     cases b1 with
     |false=>simp
     |true=>simpa using hrest
   simpa using key _ 0 ks0 [] xs [] ys b hfs rfl rfl hc
  ·cases h
theorem chkTF_ok {P:Program} {T:TE} (hT:TOk P T):∀(n:Nat) (t:TypeId) (ks:List TK),eqTF P T n t=some ks→
  (∃k ti,T.find t=some ti∧ti.kind.agg=false∧ks=[k]∧∀d em v w,n≤d→(Instr.checkKey em d t v).run P w=.ok () w)∨
  (∃ti,T.find t=some ti∧ti.kind.agg=true∧ti.size=ks.length∧∀d em (xs:List Value) w,n≤d→xs.length=ks.length→(Instr.checkKey em d t (.agg xs.toArray)).run P w=.ok () w)
 |0,_,_,h=>by cases h
 |n+1,t,ks,h=>by
  simp only[eqTF] at h
  split at h
  case h_2=>cases h
  rename_i ti ht
  have hk:=(hT t ti ht).kind
  split at h
  ·rename_i k hkd
   injection h with h
   subst h
   rw[hkd] at hk
   refine .inl ⟨_,ti,ht,by rw[hkd];rfl,rfl,fun d em v w hd=>?_⟩
   obtain⟨d,rfl⟩:∃d',d=d'+1:=⟨d-1,by omega⟩
   simp only[KindOk] at hk
   simp[Instr.checkKey,run_underlying hk]
  ·rename_i hkd
   injection h with h
   subst h
   rw[hkd] at hk
   refine .inl ⟨_,ti,ht,by rw[hkd];rfl,rfl,fun d em v w hd=>?_⟩
   obtain⟨d,rfl⟩:∃d',d=d'+1:=⟨d-1,by omega⟩
   simp only[KindOk] at hk
   simp[Instr.checkKey,run_underlying hk]
  ·rename_i hkd
   injection h with h
   subst h
   rw[hkd] at hk
   refine .inl ⟨_,ti,ht,by rw[hkd];rfl,rfl,fun d em v w hd=>?_⟩
   obtain⟨d,rfl⟩:∃d',d=d'+1:=⟨d-1,by omega⟩
   simp only[KindOk] at hk
   simp[Instr.checkKey,run_underlying hk]
  ·rename_i pl ty hkd
   split at h
   case isFalse=>cases h
   rename_i hst
   split at h
   case h_2=>cases h
   rename_i ks0 hfs
   split at h
   case isFalse=>cases h
   rename_i hsz
   injection h with h
   subst h
   rw[hkd] at hk
   obtain⟨fs,hu,_,_⟩:=hk
   have hu':P.fieldsOf t=fs:=by simp[Program.fieldsOf,hu]
   rw[hu'] at hfs
   refine .inr ⟨ti,ht,by rw[hkd];rfl,hsz,fun d em xs w hd hc=>?_⟩
   obtain⟨d,rfl⟩:∃d',d=d'+1:=⟨d-1,by omega⟩
   rw[Instr.checkKey]
   simp only[Sem.run_bind,run_underlying hu,Result.andThen_ok]
   rw[←Array.forIn_toList]
   generalize fs.toList=L at hfs
   obtain⟨xp,ys,off,hxs,hoff,hfs',hys⟩:∃xp ys off,xs=xp++ys∧xp.length=off∧eqFsF (eqTF P T n) L off=some ks0∧ys.length=ks0.length:=⟨[],xs,0,rfl,rfl,hfs,hc⟩
   clear hfs hc hsz
   induction L generalizing xp ys off ks0 with
   |nil=>simp
   |cons f l ih=>
    simp only[eqFsF] at hfs'
    split at hfs'
    case isFalse=>cases hfs'
    rename_i hno
    split at hfs'
    case h_2=>cases hfs'
    rename_i k1 hk1
    split at hfs'
    case h_2=>cases hfs'
    rename_i k2 hk2
    injection hfs' with hfs'
    subst hfs'
    simp only[List.length_append] at hys
    obtain⟨x1,x2,rfl,l1⟩:∃x1 x2,ys=x1++x2∧x1.length=k1.length:=⟨ys.take k1.length,ys.drop k1.length,(List.take_append_drop _ _).symm,by simp;omega⟩
    have hrest:=ih k2 (xp++x1) x2 (off+k1.length) (by rw[hxs,List.append_assoc]) (by simp[hoff,l1]) hk2 (by simp at hys;omega)
    have hfst:∃p,(part f.type xs.toArray f.offset).run P w=.ok p w∧(Instr.checkKey em d f.type p).run P w=.ok () w:=by
     rw[hxs]
     rcases chkTF_ok hT n f.type k1 hk1 with⟨k,tj,hj,ha,rfl,he⟩|⟨tj,hj,ha,hs,he⟩
     ·match x1,l1 with
      |[x],_=>
       refine⟨x,?_,he d em x w (by omega)⟩
       simp[part,(hT _ _ hj).run_isAgg w,ha,hno.2,←hoff]
     ·refine⟨.agg x1.toArray,?_,he d em x1 w (by omega) l1⟩
      simp only[part,Sem.run_bind,(hT _ _ hj).run_isAgg w,ha,(hT _ _ hj).run_sizeOf w,Result.andThen_ok,if_true,Sem.run_pure,hno.2,hs]
      congr 2
      apply Array.toList_inj.1
      simp[←hoff,←l1]
    obtain⟨p,hp,hr⟩:=hfst
    simp only[List.forIn_cons,Sem.run_bind,hno.1,ne_eq,not_false_eq_true,if_true,Result.andThen_ok,hp,hr,Sem.run_pure]
    exact hrest
  ·cases h
theorem LeafOk.of {P:Program} {T:TE} {t:Nat} {ks:List TK} {n:Nat} (hT:TOk P T) (hs:(T.find t).map (fun ti=>ti.kind.agg)=some true) (hn:n≤10000) (h:eqTF P T n t=some ks) (hg:P.eqGuardType P.depth t=false):LeafOk P t ks:=by
 refine⟨hg,fun xs ys b w hc=>?_,fun e xs w hl=>?_⟩
 ·rcases eqTF_ok hT n t ks h with⟨k,ti,hi,ha,_⟩|⟨ti,_,_,_,he⟩
  ·simp[hi,ha] at hs
  ·exact he _ _ _ _ _ hn hc
 ·rcases chkTF_ok hT n t ks h with⟨k,ti,hi,ha,_⟩|⟨ti,_,_,_,he⟩
  ·simp[hi,ha] at hs
  ·exact he _ _ _ _ hn hl
end Go.Eng
end
section
namespace Go.Eng
mutual
def AV.map (g:AV→AV):AV→AV
 |.agg l=>.agg (AV.mapL g l)
 |.tup l=>.tup (AV.mapL g l)
 |.ptr k off=>g (.ptr k off)
 |.mp k=>g (.mp k)
 |.vptr k s sz i off=>g (.vptr k s sz i off)
 |.vec k s=>g (.vec k s)
 |.fn f l l'=>.fn f (AV.mapL g l) (AV.mapL g l')
 |.gd b a=>.gd b (AV.map g a)
 |.junk=>.junk
 |.c v=>.c v
 |.rptr l=>.rptr l
 |.rs sz n f=>.rs sz n f
def AV.mapL (g:AV→AV):List AV→List AV
 |[]=>[]
 |a::l=>AV.map g a::AV.mapL g l
end
def AV.isName:AV→Bool
 |.ptr _ _=>true
 |.mp _=>true
 |.vptr _ _ _ _ _=>true
 |.vec _ _=>true
 |_=>false
theorem AV.mapL_length {g:AV→AV}:∀{l:List AV},(AV.mapL g l).length=l.length
 |[]=>rfl
 |a::l=>by simp[AV.mapL,AV.mapL_length (l:=l)]
theorem AV.mapL_get {g:AV→AV}:∀{l:List AV} {i:Nat} {x:AV},(AV.mapL g l)[i]?=some x→∃y,l[i]?=some y∧x=y.map g
 |[],i,x,h=>by simp[AV.mapL] at h
 |a::l,0,x,h=>by simp[AV.mapL] at h;exact⟨a,rfl,h.symm⟩
 |a::l,i+1,x,h=>by simp[AV.mapL] at h;simpa using AV.mapL_get h
theorem R.map {w w':World} {G G':Nat→Prop} (hG:∀b,G b→G' b∧w'.heap[b]?=w.heap[b]?) {ρ:Rho} {a:AV} {v:Value} (h:R w G ρ a v):
  ∀{ρ':Rho} {g:AV→AV},(∀x v,x.isName=true→R w G ρ x v→R w' G' ρ' (g x) v)→R w' G' ρ' (a.map g) v:=by
 induction h with
 |junk=>exact fun _=>.junk
 |c=>exact fun _=>.c
 |agg hs _ ih=>
  intro ρ' g hg
  refine .agg (by rw[AV.mapL_length];exact hs) fun i a h=>?_
  obtain⟨y,hy,rfl⟩:=AV.mapL_get h
  exact ih i y hy hg
 |tup hs _ ih=>
  intro ρ' g hg
  refine .tup (by rw[AV.mapL_length];exact hs) fun i a h=>?_
  obtain⟨y,hy,rfl⟩:=AV.mapL_get h
  exact ih i y hy hg
 |ptr hk=>exact fun hg=>hg _ _ rfl (.ptr hk)
 |mp hk=>exact fun hg=>hg _ _ rfl (.mp hk)
 |vptr hk hi=>exact fun hg=>hg _ _ rfl (.vptr hk hi)
 |vptrOld hk hs=>exact fun hg=>hg _ _ rfl (.vptrOld hk hs)
 |vec hk=>exact fun hg=>hg _ _ rfl (.vec hk)
 |vecOld hk hs=>exact fun hg=>hg _ _ rfl (.vecOld hk hs)
 |rptr val hg hc h _=>exact fun _=>(R.rptr (ρ:=Rho.none) val hg hc h).tr hG _ (Le.none _)
 |rs val hn hm hc hl h _=>exact fun _=>(R.rs (ρ:=Rho.none) val hn hm hc hl h).tr hG _ (Le.none _)
 |fn hs _ hs' _ ih ih'=>
  intro ρ' g hg
  refine .fn (by rw[AV.mapL_length];exact hs) (fun i a h=>?_) (by rw[AV.mapL_length];exact hs') (fun i a h=>?_)
  ·obtain⟨y,hy,rfl⟩:=AV.mapL_get h
   exact ih i y hy hg
  ·obtain⟨y,hy,rfl⟩:=AV.mapL_get h
   exact ih' i y hy hg
 |gd _ hf ih=>exact fun hg=>.gd (fun h=>ih h hg) hf
def Ob.map (g:AV→AV):Ob→Ob
 |.cells t cs=>.cells t (AV.mapL g cs)
 |.vec e sz s n f=>.vec e sz s n f
 |.mapo kk zv d f sn=>.mapo kk zv d (fun z=>(f z).map g) sn
 |.mapb kk zv d f=>.mapb kk zv d f
 |.lrec mk b cs=>.lrec mk b (AV.mapL g cs)
theorem ObOk.map {w:World} {G G':Nat→Prop} (hG:∀b,G b→G' b) {ρ ρ':Rho} {g:AV→AV} (hg:∀x v,x.isName=true→R w G ρ x v→R w G' ρ' (g x) v) {k k':Nat} {o:Ob} (h:ObOk w G ρ k o) (hk:ρ' k'=ρ k):ObOk w G' ρ' k' (o.map g):=by
 cases o with
 |cells t cs=>
  obtain⟨b,arr,hk',hh,hs,hr⟩:=h
  refine⟨b,arr,hk.trans hk',hh,by rw[AV.mapL_length];exact hs,fun i x hx=>?_⟩
  obtain⟨y,hy,rfl⟩:=AV.mapL_get hx
  exact(hr i y hy).map (fun b hb=>⟨hG b hb,rfl⟩) hg
 |vec e sz s n f=>
  obtain⟨hv,xs,hk',hown,hf,hr⟩:=h
  exact⟨hv,xs,hk.trans hk',hown,hf,fun i j x hi hx=>(hr i j x hi hx).tr (fun b hb=>⟨hG b hb,rfl⟩) _ (Le.refl _)⟩
 |mapo kk zv d f sn=>
  obtain⟨b,es,clock,hk',hh,hs,hr,hsn⟩:=h
  exact⟨b,es,clock,hk.trans hk',hh,hs,(fun z hz=>by
   obtain⟨r,h1,h2,h3⟩:=hr z hz
   exact⟨r,h1,h2,h3.map (fun b hb=>⟨hG b hb,rfl⟩) hg⟩),hsn⟩
 |mapb kk zv d f=>
  obtain⟨b,es,clock,hk',hh,hs,hr⟩:=h
  exact⟨b,es,clock,hk.trans hk',hh,hs,fun z hz=>by
   obtain⟨r,h1,h2,h3⟩:=hr z hz
   exact⟨r,h1,h2,h3.tr (fun b hb=>⟨hG b hb,rfl⟩) _ (Le.refl _)⟩⟩
 |lrec mk b cs=>
  obtain⟨arr,hk',hh,hs,hr⟩:=h
  refine⟨arr,hk.trans hk',hh,by rw[AV.mapL_length];exact hs,fun i x hx=>?_⟩
  obtain⟨y,hy,rfl⟩:=AV.mapL_get hx
  exact(hr i y hy).map (fun b hb=>⟨hG b hb,rfl⟩) hg
section
variable {E:Env} {st:ST} {a:Act} {w:World} {ρ:Rho} {Q:Exit→ST→Prop} {k:List It}
theorem SatR.conv (h:SatR E st a w ρ) {st':ST} {ρ':Rho} {g:AV→AV} (hnt:st'.nt=st.nt) (hfr:∀k,st'.fr k=(st.fr k).map g)
  (leaf:∀x v,x.isName=true→R w (E.good w ρ) ρ x v→R w (E.good w ρ') ρ' (g x) v) (hob:∀k o,st'.ob k=some o→ObOk w (E.good w ρ') ρ' k o) (hno:∀k,st'.ob k=none→ρ' k=none)
  (hsub:∀k x b,ρ' k=some x→x.block=some b→∃y,ρ k=some y∧y.block=some b)
  (hle:∀k,k<E.N→∀x,E.r0 k=some x→ρ' k=some x∨∃s v s' v',x=.hdr s v∧ρ' k=some (.hdr s' v')∧s<s'):SatR E st' a w ρ':=by
 have hG:∀b,E.good w ρ b→E.good w ρ' b∧w.heap[b]?=w.heap[b]?:=fun b ⟨h0,hlt,hno⟩=>⟨⟨h0,hlt,fun j y hj hy=>by
  obtain⟨z,hz,hzb⟩:=hsub j y b hj hy
  exact hno j z hz hzb⟩,rfl⟩
 refine⟨h.keep,hnt▸h.tsz,h.dfr.tr hG,h.gl.tr hG,fun k=>?_,hob,hno,fun j j' y y' b hj hj' hy hy'=>?_,fun j y b hj hy=>?_,hle⟩
 ·rw[hfr k];exact(h.fr k).map hG leaf
 ·obtain⟨z,hz,hzb⟩:=hsub j y b hj hy
  obtain⟨z',hz',hzb'⟩:=hsub j' y' b hj' hy'
  exact h.dis j j' z z' b hz hz' hzb hzb'
 ·obtain⟨z,hz,hzb⟩:=hsub j y b hj hy
  exact h.own j z b hz hzb
def stampG (k s t:Nat):AV→AV
 |.vec j s'=>bif Nat.beq j k then(bif Nat.beq s' s then .vec j t else .junk) else .vec j s'
 |.vptr j s' sz i off=>bif Nat.beq j k then(bif Nat.beq s' s then .vptr j t sz i off else .junk) else .vptr j s' sz i off
 |x=>x
def ST.stamp (st:ST) (k s t:Nat) (o:Ob):ST:={st with fr:=fun j=>(st.fr j).map (stampG k s t),ob:=upd (fun j=>(st.ob j).map (Ob.map (stampG k s t))) k (some o)}
theorem Weak.stamp {k e sz s t n m:Nat} {f:Nat→List AV} (hN:E.N=m) (hk:st.ob k=some (.vec e sz s n f)) (hs:(Nat.ble m k||Nat.ble s t)=true):Weak E st (st.stamp k s t (.vec e sz t n f)):=by
 intro a w ⟨ρ,h⟩
 obtain⟨hv,xs,hg,hown,hf,hr⟩:=h.ob k _ hk
 have hsub:∀j x b,upd ρ k (some (.hdr t hv)) j=some x→x.block=some b→∃y,ρ j=some y∧y.block=some b:=by
  intro j x b hj hb
  by_cases hjk:j=k
  ·subst hjk
   rw[upd_same] at hj
   injection hj with hj
   subst hj
   exact⟨_,hg,hb⟩
  ·rw[upd_other _ _ hjk] at hj;exact⟨x,hj,hb⟩
 have hG:∀b,E.good w ρ b→E.good w (upd ρ k (some (.hdr t hv))) b:=fun b ⟨h0,hlt,hno⟩=>⟨h0,hlt,fun j y hj hy=>by
  obtain⟨z,hz,hzb⟩:=hsub j y b hj hy
  exact hno j z hz hzb⟩
 have leaf:∀x v,x.isName=true→R w (E.good w ρ) ρ x v→R w (E.good w (upd ρ k (some (.hdr t hv)))) (upd ρ k (some (.hdr t hv))) (stampG k s t x) v:=by
  intro x v hx hxv
  cases hxv with
  |ptr hj=>
   refine .ptr ((upd_other _ _ fun e=>?_).trans hj)
   subst e
   rw[hg] at hj;injection hj with hj;cases hj
  |mp hj=>
   refine .mp ((upd_other _ _ fun e=>?_).trans hj)
   subst e
   rw[hg] at hj;injection hj with hj;cases hj
  |@vptr _ j s' sz' i off g n' cap hj hi=>
   simp only[stampG]
   cases hb:Nat.beq j k with
   |false=>
    simp only[cond_false]
    exact .vptr ((upd_other _ _ fun e=>by subst e;simp at hb).trans hj) hi
   |true=>
    have:=Nat.eq_of_beq_eq_true hb
    subst this
    rw[hg] at hj
    injection hj with hj
    injection hj with h1 h2
    subst h1 h2
    simp only[cond_true]
    cases hb2:Nat.beq s s with
    |true=>simp only[cond_true];exact .vptr (upd_same _ _ _) hi
    |false=>exact .junk
  |@vptrOld _ j s1 s2 sz' i off hv' v' hj hlt=>
   simp only[stampG]
   cases hb:Nat.beq j k with
   |false=>
    simp only[cond_false]
    exact .vptrOld ((upd_other _ _ fun e=>by subst e;simp at hb).trans hj) hlt
   |true=>
    have:=Nat.eq_of_beq_eq_true hb
    subst this
    rw[hg] at hj
    injection hj with hj
    injection hj with h1 h2
    subst h1
    simp only[cond_true]
    cases hb2:Nat.beq s1 s with
    |true=>have:=Nat.eq_of_beq_eq_true hb2;omega
    |false=>exact .junk
  |@vec _ j s' hv' hj=>
   simp only[stampG]
   cases hb:Nat.beq j k with
   |false=>
    simp only[cond_false]
    exact .vec ((upd_other _ _ fun e=>by subst e;simp at hb).trans hj)
   |true=>
    have:=Nat.eq_of_beq_eq_true hb
    subst this
    rw[hg] at hj
    injection hj with hj
    injection hj with h1 h2
    subst h1 h2
    simp only[cond_true]
    cases hb2:Nat.beq s s with
    |true=>simp only[cond_true];exact .vec (upd_same _ _ _)
    |false=>exact .junk
  |@vecOld _ j s1 s2 hv' v' hj hlt=>
   simp only[stampG]
   cases hb:Nat.beq j k with
   |false=>
    simp only[cond_false]
    exact .vecOld ((upd_other _ _ fun e=>by subst e;simp at hb).trans hj) hlt
   |true=>
    have:=Nat.eq_of_beq_eq_true hb
    subst this
    rw[hg] at hj
    injection hj with hj
    injection hj with h1 h2
    subst h1
    simp only[cond_true]
    cases hb2:Nat.beq s1 s with
    |true=>have:=Nat.eq_of_beq_eq_true hb2;omega
    |false=>exact .junk
  |junk=>cases hx
  |c=>cases hx
  |agg=>cases hx
  |tup=>cases hx
  |rptr=>cases hx
  |rs=>cases hx
  |fn=>cases hx
  |gd=>cases hx
 refine⟨upd ρ k (some (.hdr t hv)),h.conv rfl (fun _=>rfl) leaf (fun j o hj=>?_) (fun j hj=>?_) hsub (fun j hj x hx=>?_)⟩
 ·by_cases hjk:j=k
  ·subst hjk
   simp only[ST.stamp,upd_same] at hj
   injection hj with hj
   subst hj
   exact⟨hv,xs,upd_same _ _ _,hown,hf,fun i j x hi hx=>(hr i j x hi hx).tr (fun b hb=>⟨hG b hb,rfl⟩) _ (Le.refl _)⟩
  ·simp only[ST.stamp,upd_other _ _ hjk,Option.map_eq_some_iff] at hj
   obtain⟨o',ho',rfl⟩:=hj
   exact(h.ob j o' ho').map hG leaf (upd_other _ _ hjk)
 ·by_cases hjk:j=k
  ·subst hjk;simp only[ST.stamp,upd_same] at hj;cases hj
  ·simp only[ST.stamp,upd_other _ _ hjk,Option.map_eq_none_iff] at hj
   rw[upd_other _ _ hjk];exact h.no j hj
 ·by_cases hjk:j=k
  ·subst hjk
   have hlt:s≤t:=by
    simp only[Bool.or_eq_true] at hs
    rcases hs with h1|h1
    ·have:=Nat.le_of_ble_eq_true h1;omega
    ·exact Nat.le_of_ble_eq_true h1
   rw[upd_same]
   rcases h.le j hj x hx with h1|⟨s1,v1,s2,v2,h1,h2,h3⟩
   ·rw[hg] at h1
    injection h1 with h1
    subst h1
    by_cases he:s=t
    ·subst he;exact .inl rfl
    ·exact .inr ⟨s,hv,t,hv,rfl,rfl,by omega⟩
   ·rw[hg] at h2
    injection h2 with h2
    injection h2 with h2 h4
    subst h2
    exact .inr ⟨s1,v1,t,hv,h1,rfl,by omega⟩
  ·rw[upd_other _ _ hjk];exact h.le j hj x hx
def Sub (E:Env) (st st':ST):Prop:=∀a w ρ,SatR E st a w ρ→∃ρ',SatR E st' a w ρ'∧∀k x,ρ' k=some x→ρ k=some x
theorem Sub.weak {st':ST} (h:Sub E st st'):Weak E st st':=fun a w ⟨ρ,hs⟩=>
 let⟨ρ',h1,_⟩:=h a w ρ hs
 ⟨ρ',h1⟩
def frozenG (k s sz n:Nat) (f:Nat→List AV):AV→AV
 |.vec j s'=>bif Nat.beq j k then(bif Nat.beq s' s then .rs sz n f else .junk) else .vec j s'
 |.vptr j s' sz i off=>bif Nat.beq j k then .junk else .vptr j s' sz i off
 |.ptr j off=>.ptr j off
 |x=>x
def ST.frozen (st:ST) (k s sz n:Nat) (f:Nat→List AV):ST:={st with fr:=fun j=>(st.fr j).map (frozenG k s sz n f),ob:=upd (fun j=>(st.ob j).map (Ob.map (frozenG k s sz n f))) k none}
theorem Sub.frozen {k e sz s n m:Nat} {f:Nat→List AV} (hN:E.N=m) (hk:st.ob k=some (.vec e sz s n f)) (hs:Nat.ble m k=true):Sub E st (st.frozen k s sz n f):=by
 intro a w ρ h
 obtain⟨hv,xs,hg,hown,hf,hr⟩:=h.ob k _ hk
 have hsub:∀j x b,upd ρ k none j=some x→x.block=some b→j≠k∧ρ j=some x:=by
  intro j x b hj hb
  by_cases hjk:j=k
  ·subst hjk;rw[upd_same] at hj;cases hj
  ·rw[upd_other _ _ hjk] at hj;exact⟨hjk,hj⟩
 have hG:∀b,E.good w ρ b→E.good w (upd ρ k none) b:=fun b ⟨h0,hlt,hno⟩=>⟨h0,hlt,fun j y hj hy=>hno j y (hsub j y b hj hy).2 hy⟩
 have leaf:∀x v,x.isName=true→R w (E.good w ρ) ρ x v→R w (E.good w (upd ρ k none)) (upd ρ k none) (frozenG k s sz n f x) v:=by
  intro x v hx hxv
  cases hxv with
  |ptr hj=>
   refine .ptr ((upd_other _ _ fun e=>?_).trans hj)
   subst e
   rw[hg] at hj;injection hj with hj;cases hj
  |mp hj=>
   refine .mp ((upd_other _ _ fun e=>?_).trans hj)
   subst e
   rw[hg] at hj;injection hj with hj;cases hj
  |@vptr _ j s' sz' i off g n' cap hj hi=>
   simp only[frozenG]
   cases hb:Nat.beq j k with
   |false=>exact .vptr ((upd_other _ _ fun e=>by subst e;simp at hb).trans hj) hi
   |true=>exact .junk
  |@vptrOld _ j s1 s2 sz' i off hv' v' hj hlt=>
   simp only[frozenG]
   cases hb:Nat.beq j k with
   |false=>exact .vptrOld ((upd_other _ _ fun e=>by subst e;simp at hb).trans hj) hlt
   |true=>exact .junk
  |@vec _ j s' hv' hj=>
   simp only[frozenG]
   cases hb:Nat.beq j k with
   |false=>exact .vec ((upd_other _ _ fun e=>by subst e;simp at hb).trans hj)
   |true=>
    have:=Nat.eq_of_beq_eq_true hb
    subst this
    rw[hg] at hj
    injection hj with hj
    injection hj with h1 h2
    subst h1 h2
    simp only[cond_true]
    cases hb2:Nat.beq s s with
    |false=>exact .junk
    |true=>
     simp only[cond_true]
     obtain⟨hxl,hcase⟩:=hown
     rcases hcase with⟨rfl,rfl⟩|⟨g,cap,cur,rfl,_,hh,hnc,hm,hsz,htake⟩
     ·exact .rs (fun _ _=>undef) (Nat.le_refl _) (Nat.zero_le _) (fun h0=>absurd h0 (by omega)) hf (fun i j x hi=>absurd hi (by omega))
     ·have hidx:∀i q,i<n→q<sz→i*sz+q<n*sz:=by
       intro i q hi hq
       have:(i+1)*sz≤n*sz:=Nat.mul_le_mul_right sz hi
       rw[Nat.add_mul] at this;omega
      refine .rs (fun i q=>xs.getD (i*sz+q) undef) hnc hm (fun _=>⟨_,rfl,⟨?_,?_,?_⟩,fun i q hi hq=>?_⟩) hf (fun i q x hi hx=>(hr i q x hi hx).tr (fun b hb=>⟨hG b hb,rfl⟩) _ (Le.refl _))
      ·exact .inr (h.own j _ g hg rfl)
      ·exact h.lt hg rfl
      ·intro j' y hj' hy
       obtain⟨hne,hj2⟩:=hsub j' y g hj' hy
       exact hne (h.dis j' j y _ g hj2 hg hy rfl)
      ·have hlt:=hidx i q hi hq
       have hlc:i*sz+q<cur.size:=by
        have:=Nat.mul_le_mul_right sz hnc
        omega
       have hv:xs.getD (i*sz+q) undef=cur[i*sz+q]:=by
        rw[←htake]
        simp[List.getD,hlt,hlc]
       rw[hv]
       rw[Addr.add_lit,Nat.zero_add]
       simp[World.cell?,hh,hlc]
  |@vecOld _ j s1 s2 hv' v' hj hlt=>
   simp only[frozenG]
   cases hb:Nat.beq j k with
   |false=>exact .vecOld ((upd_other _ _ fun e=>by subst e;simp at hb).trans hj) hlt
   |true=>
    have:=Nat.eq_of_beq_eq_true hb
    subst this
    rw[hg] at hj
    injection hj with hj
    injection hj with h1 h2
    subst h1
    simp only[cond_true]
    cases hb2:Nat.beq s1 s with
    |true=>have:=Nat.eq_of_beq_eq_true hb2;omega
    |false=>exact .junk
  |junk=>cases hx
  |c=>cases hx
  |agg=>cases hx
  |tup=>cases hx
  |rptr=>cases hx
  |rs=>cases hx
  |fn=>cases hx
  |gd=>cases hx
 refine⟨upd ρ k none,h.conv rfl (fun _=>rfl) leaf (fun j o hj=>?_) (fun j hj=>?_) (fun j x b hj hb=>⟨x,(hsub j x b hj hb).2,hb⟩) (fun j hj x hx=>?_),fun j x hj=>?_⟩
 ·by_cases hjk:j=k
  ·subst hjk;simp only[ST.frozen,upd_same] at hj;cases hj
  ·simp only[ST.frozen,upd_other _ _ hjk,Option.map_eq_some_iff] at hj
   obtain⟨o',ho',rfl⟩:=hj
   exact(h.ob j o' ho').map hG leaf (upd_other _ _ hjk)
 ·by_cases hjk:j=k
  ·subst hjk;rw[upd_same]
  ·simp only[ST.frozen,upd_other _ _ hjk,Option.map_eq_none_iff] at hj
   rw[upd_other _ _ hjk];exact h.no j hj
 ·have:j≠k:=fun e=>by
   subst e
   have:=Nat.le_of_ble_eq_true hs
   omega
  rw[upd_other _ _ this];exact h.le j hj x hx
 ·by_cases hjk:j=k
  ·subst hjk;rw[upd_same] at hj;cases hj
  ·rw[upd_other _ _ hjk] at hj;exact hj
theorem Weak.frozen {k e sz s n m:Nat} {f:Nat→List AV} (hN:E.N=m) (hk:st.ob k=some (.vec e sz s n f)) (hs:Nat.ble m k=true):Weak E st (st.frozen k s sz n f):=(Sub.frozen hN hk hs).weak
theorem Weak.ghost {j k e sz:Nat} {f:Nat→List AV} (hj:st.fr j=.c (.slice none 0 0)) (hk:st.ob k=none):Weak E st {st with fr:=upd st.fr j (.vec k 0),ob:=upd st.ob k (some (.vec e sz 0 0 f))}:=by
 intro a w ⟨ρ,h⟩
 have hn:=h.no k hk
 have hu:∀i x b,upd ρ k (some (.hdr 0 (.slice none 0 0))) i=some x→x.block=some b→ρ i=some x:=by
  intro i x b hi hb
  by_cases hik:i=k
  ·subst hik;rw[upd_same] at hi;injection hi with hi;subst hi;cases hb
  ·rwa[upd_other _ _ hik] at hi
 have hl:Le ρ (upd ρ k (some (.hdr 0 (.slice none 0 0)))):=by
  intro i x hi
  by_cases hik:i=k
  ·subst hik;rw[hn] at hi;cases hi
  ·rw[upd_other _ _ hik];exact .inl hi
 have hG:∀b,E.good w ρ b→E.good w (upd ρ k (some (.hdr 0 (.slice none 0 0)))) b∧w.heap[b]?=w.heap[b]?:=fun b ⟨h0,hlt,hno⟩=>⟨⟨h0,hlt,fun i y hi hy=>hno i y (hu i y b hi hy) hy⟩,rfl⟩
 refine⟨upd ρ k (some (.hdr 0 (.slice none 0 0))),h.keep,h.tsz,h.dfr.tr hG,h.gl.tr hG,fun i=>?_,fun i o hi=>?_,fun i hi=>?_,fun i i' y y' b hi hi' hy hy'=>h.dis i i' y y' b (hu i y b hi hy) (hu i' y' b hi' hy') hy hy',fun i y b hi hy=>h.own i y b (hu i y b hi hy) hy,fun i hi x hx=>?_⟩
 ·by_cases hij:i=j
  ·subst hij
   have:=(hj▸h.fr i:R w _ ρ (.c (.slice none 0 0)) _).c_inv
   simp only[upd_same]
   rw[this]
   exact .vec (upd_same _ _ _)
  ·simp only[upd_other _ _ hij]
   exact(h.fr i).tr hG _ hl
 ·by_cases hik:i=k
  ·subst hik
   simp only[upd_same] at hi
   injection hi with hi
   subst hi
   exact⟨.slice none 0 0,[],upd_same _ _ _,⟨by simp,.inl ⟨rfl,rfl⟩⟩,(fun i hi=>absurd hi (by omega)),fun i j x hi=>absurd hi (by omega)⟩
  ·simp only[upd_other _ _ hik] at hi
   exact(h.ob i o hi).tr hG hl (upd_other _ _ hik) fun _ _ _ _=>rfl
 ·by_cases hik:i=k
  ·subst hik;simp only[upd_same] at hi;cases hi
  ·simp only[upd_other _ _ hik] at hi ⊢;exact h.no i hi
 ·rcases h.le i hi x hx with h1|⟨s,v,s',v',h1,h2,h3⟩
  ·exact hl i x h1
  ·rcases hl i _ h2 with h4|⟨s1,v1,s2,v2,h4,h5,h6⟩
   ·exact .inr ⟨s,v,s',v',h1,h4,h3⟩
   ·injection h4 with h4 h7
    exact .inr ⟨s,v,s2,v2,h1,h5,by omega⟩
theorem XL.weak {ops:Array Oper} {l:List Oper} {st':ST} (hw:Weak E st st') (h:XL E ops Q l st'):XL E ops Q l st:=fun a w hs=>h a w (hw a w hs)
theorem XK.weak {c:Code} {st':ST} (hw:Weak E st st') (h:XK E (.code c::k) Q st'):XK E (.code c::k) Q st:=XQ.weak hw h
theorem XK.fact {c:Code} {p:Prop} (hp:∀a w,Sat E st a w→p) (h:p→XK E (.code c::k) Q st):XK E (.code c::k) Q st:=fun a w hs=>h (hp a w hs) a w hs
theorem Sat.rs_len {j sz n:Nat} {f:Nat→List AV} (hj:st.fr j=.rs sz n f):∀a w,Sat E st a w→n≤9223372036854775807∧∀i,i<n→(f i).length=sz:=by
 intro a w ⟨ρ,h⟩
 have:=hj▸h.fr j
 generalize a.tmps.getD j undef=v at this
 cases this with
 |rs val hn hm hc hl h=>exact⟨Nat.le_trans hn hm,hl⟩
end
theorem Does.arg {P:Program} {f:FuncId} {args args':List AV} {res:AV} (h:Does P f args' res) (hl:args.length=args'.length) (ha:∀(i:Nat) (x y:AV),args[i]?=some x→args'[i]?=some y→AvIs x y):Does P f args res:=by
 refine⟨h.1,fun w G vs hs hG hgl hr=>h.2 w G vs (hs.trans hl) hG hgl fun i y hy=>?_⟩
 have hi:i<args.length:=by rw[hl];exact(List.getElem?_eq_some_iff.1 hy).1
 exact(ha i _ y (List.getElem?_eq_getElem hi) hy).ok (hr i _ (List.getElem?_eq_getElem hi))
end Go.Eng
end
section
namespace Go.Eng
def AvIsL:List AV→List AV→Prop
 |[],[]=>True
 |[x],[y]=>AvIs x y
 |x::l,y::l'=>AvIs x y∧AvIsL l l'
 |_,_=>False
theorem AvIsL.at:∀{l l':List AV},AvIsL l l'→l.length=l'.length∧∀(i:Nat) (x y:AV),l[i]?=some x→l'[i]?=some y→AvIs x y
 |[],[],_=>⟨rfl,fun i x y h=>by simp at h⟩
 |[x],[y],h=>⟨rfl,fun i x' y' h1 h2=>by
  match i with
  |0=>simp at h1 h2;subst h1 h2;exact h
  |i+1=>simp at h1⟩
 |x::x2::l,y::y2::l',h=>by
  obtain⟨h1,h2⟩:=AvIsL.at (l:=x2::l) (l':=y2::l') h.2
  refine⟨by simpa using h1,fun i x' y' g1 g2=>?_⟩
  match i with
  |0=>simp at g1 g2;subst g1 g2;exact h.1
  |i+1=>exact h2 i x' y' (by simpa using g1) (by simpa using g2)
 |[x],y::y2::l',h=>False.elim h.2
 |x::x2::l,[y],h=>by
  have:=h.2
  cases l<;>simp[AvIsL] at this
section
variable {E:Env} {Q:Exit→ST→Prop} {ops:Array Oper} {o:Oper} {rest:List Oper} {f d:Nat} {args args1 args':List AV} {res:AV} {fr:Nat→AV} {ob:Nat→Option Ob} {nx nt:Nat} {md:Nat→Bool} {P:Program} {k:List It} {tr0:List (EffM×(List Nat×List Nat))}
theorem XK.out {T:TE} {rs:List ResultVar} {x x':AV} (h:retF T ⟨fr,ob,nx,nt,md⟩ rs=some x) (hf:frc x=some x') (hk:x'.ks (fun _=>false)=true) (he:x'=res):XK E (.code .ret::k) (RetQ T rs res) ⟨fr,ob,nx,nt,md⟩:=XK.ret (RetQ.ret h (frc_eq hf▸hk) (frc_eq hf▸he))
theorem XK.outN {T:TE} {rs:List ResultVar} {x x':AV} (h:retF T ⟨fr,ob,nx,nt,md⟩ rs=some x) (hf:frc x=some x') (hk:x'.ks (fun _=>false)=true) (he:x'=res):XK E [] (RetQ T rs res) ⟨fr,ob,nx,nt,md⟩:=XK.nil (RetQ.normal h (frc_eq hf▸hk) (frc_eq hf▸he))
theorem XK.outL {T:TE} {rs:List ResultVar} {x x':AV} (h:retF T ⟨fr,ob,nx,nt,md⟩ rs=some x) (hf:frc x=some x') (hk:x'.ks (fun _=>false)=true) (he:AvIs x' res):XK E (.code .ret::k) (RetQ T rs res) ⟨fr,ob,nx,nt,md⟩:=by
 have e:=frc_eq hf
 subst e
 exact XK.ret ⟨.inr rfl,_,h,hk,he⟩
theorem XK.outLN {T:TE} {rs:List ResultVar} {x x':AV} (h:retF T ⟨fr,ob,nx,nt,md⟩ rs=some x) (hf:frc x=some x') (hk:x'.ks (fun _=>false)=true) (he:AvIs x' res):XK E [] (RetQ T rs res) ⟨fr,ob,nx,nt,md⟩:=by
 have e:=frc_eq hf
 subst e
 exact XK.nil ⟨.inl rfl,_,h,hk,he⟩
theorem XL.fin (h:XK E k Q ⟨fr,ob,nx+nt,nt,md⟩):XL E ops (XQ E k Q) [] ⟨fr,ob,nx,nt,md⟩:=XL.nil h
theorem XD.fin (hc:checkD [] [] ops.toList tr0=true) (h:XK E k Q ⟨fr,ob,nx+nt,nt,md⟩):XD E ops Q k tr0 [] ⟨fr,ob,nx,nt,md⟩:=XD.nil hc h
theorem XL.callL (hE:E.P=P) (hc:callF ⟨fr,ob,nx,nt,md⟩ o.op=some (f,args)) (hg:o.guard=none) (hds:o.dst=some d) (hd:Nat.blt d nt=true) (ho:AllP (o.op.operands.toList.flatMap (fun x=>oblG none (ST.ev ⟨fr,ob,nx,nt,md⟩ x))))
  (hfa:frcL (AV.lendL ob args)=some args1) (hP:Does P f args' res) (ha:AvIsL args1 args') (hfl:res.flat=true) (h:XL E ops Q rest ⟨upd fr d res,ob,nx,nt,md⟩):XL E ops Q (o::rest) ⟨fr,ob,nx,nt,md⟩:=by
 have h1:=frcL_eq hfa
 refine XL.call hc hg (by simp[dstOk,hds,hd]) ho (hE▸Does.arg hP ha.at.1 ha.at.2) (.inl ⟨h1.symm,hfl⟩) ?_
 rw[hds];exact h
theorem XL.callK (hE:E.P=P) (hc:callF ⟨fr,ob,nx,nt,md⟩ o.op=some (f,args)) (hg:o.guard=none) (hds:o.dst=some d) (hd:Nat.blt d nt=true) (ho:AllP (o.op.operands.toList.flatMap (fun x=>oblG none (ST.ev ⟨fr,ob,nx,nt,md⟩ x))))
  (hfa:frcL args=some args1) (hks:AV.ksL (fun _=>false) args1=true) (hP:Does P f args' res) (ha:AvIsL args1 args') (h:XL E ops Q rest ⟨upd fr d res,ob,nx,nt,md⟩):XL E ops Q (o::rest) ⟨fr,ob,nx,nt,md⟩:=by
 have h1:=frcL_eq hfa
 subst h1
 refine XL.call hc hg (by simp[dstOk,hds,hd]) ho (hE▸Does.arg hP ha.at.1 ha.at.2) (.inr ⟨rfl,hks⟩) ?_
 rw[hds];exact h
theorem XL.callLG {j:Nat} {pol g:Bool} (hE:E.P=P) (hc:callF ⟨fr,ob,nx,nt,md⟩ o.op=some (f,args)) (hg:o.guard=some (j,pol)) (hgv:gval ⟨fr,ob,nx,nt,md⟩ ops.toList j pol=some g) (hds:o.dst=some d) (hd:Nat.blt d nt=true) (hda:ops.toList.all (dstOk ⟨fun _=>.junk,fun _=>none,nx,nt,md⟩)=true)
  {obl':List Prop} (hf:frcP (o.op.operands.toList.flatMap (fun x=>oblG (some g) (ST.ev ⟨fr,ob,nx,nt,md⟩ x)))=some obl') (ho:AllP obl')
  (hfa:frcL (AV.lendL ob args)=some args1) (hP:g=true→Does P f args' res∧AvIsL args1 args') (hfl:res.flat=true) (h:XL E ops Q rest ⟨upd fr d (.gd g res),ob,nx,nt,md⟩):XL E ops Q (o::rest) ⟨fr,ob,nx,nt,md⟩:=by
 have h1:=frcL_eq hfa
 have ho:=frcP_eq hf▸ho
 refine XL.callG (args':=args1) hc hg hgv (by simp[dstOk,hds,hd]) hda ho (fun e=>hE▸Does.arg (hP e).1 (hP e).2.at.1 (hP e).2.at.2) (.inl ⟨h1.symm,hfl⟩) ?_
 rw[hds];exact h
theorem XD.callL (hE:E.P=P) (hc:callF ⟨fr,ob,nx,nt,md⟩ o.op=some (f,args)) (hg:o.guard=none) (hds:o.dst=some d) (hd:Nat.blt d nt=true) (ho:AllP (o.op.operands.toList.flatMap (fun x=>oblG none (ST.ev ⟨fr,ob,nx,nt,md⟩ x))))
  (hfa:frcL (AV.lendL ob args)=some args1) (hP:Does P f args' res) (ha:AvIsL args1 args') (hfl:res.flat=true) (h:XD E ops Q k (tr0++[(⟨res,[]⟩,fpF ops.toList ⟨fr,ob,nx,nt,md⟩ o)]) rest ⟨upd fr d res,ob,nx,nt,md⟩):XD E ops Q k tr0 (o::rest) ⟨fr,ob,nx,nt,md⟩:=by
 have h1:=frcL_eq hfa
 refine XD.call hc hg (by simp[dstOk,hds,hd]) ho (hE▸Does.arg hP ha.at.1 ha.at.2) (.inl ⟨h1.symm,hfl⟩) ?_
 rw[hds];exact h
theorem XD.callK (hE:E.P=P) (hc:callF ⟨fr,ob,nx,nt,md⟩ o.op=some (f,args)) (hg:o.guard=none) (hds:o.dst=some d) (hd:Nat.blt d nt=true) (ho:AllP (o.op.operands.toList.flatMap (fun x=>oblG none (ST.ev ⟨fr,ob,nx,nt,md⟩ x))))
  (hfa:frcL args=some args1) (hks:AV.ksL (fun _=>false) args1=true) (hP:Does P f args' res) (ha:AvIsL args1 args') (h:XD E ops Q k (tr0++[(⟨res,[]⟩,fpF ops.toList ⟨fr,ob,nx,nt,md⟩ o)]) rest ⟨upd fr d res,ob,nx,nt,md⟩):XD E ops Q k tr0 (o::rest) ⟨fr,ob,nx,nt,md⟩:=by
 have h1:=frcL_eq hfa
 subst h1
 refine XD.call hc hg (by simp[dstOk,hds,hd]) ho (hE▸Does.arg hP ha.at.1 ha.at.2) (.inr ⟨rfl,hks⟩) ?_
 rw[hds];exact h
theorem XD.callKG {j:Nat} {pol g:Bool} (hE:E.P=P) (hc:callF ⟨fr,ob,nx,nt,md⟩ o.op=some (f,args)) (hg:o.guard=some (j,pol)) (hgv:gval ⟨fr,ob,nx,nt,md⟩ ops.toList j pol=some g) (hds:o.dst=some d) (hd:Nat.blt d nt=true) (hda:ops.toList.all (dstOk ⟨fun _=>.junk,fun _=>none,nx,nt,md⟩)=true)
  {obl':List Prop} (hf:frcP (o.op.operands.toList.flatMap (fun x=>oblG (some g) (ST.ev ⟨fr,ob,nx,nt,md⟩ x)))=some obl') (ho:AllP obl')
  (hfa:frcL args=some args1) (hks:AV.ksL (fun _=>false) args1=true) (hP:g=true→Does P f args' res∧AvIsL args1 args') (hfl:res.flat=true) (h:XD E ops Q k (tr0++[(⟨.gd g res,[]⟩,fpF ops.toList ⟨fr,ob,nx,nt,md⟩ o)]) rest ⟨upd fr d (.gd g res),ob,nx,nt,md⟩):XD E ops Q k tr0 (o::rest) ⟨fr,ob,nx,nt,md⟩:=by
 have h1:=frcL_eq hfa
 have ho:=frcP_eq hf▸ho
 subst h1
 refine XD.callG hc hg hgv (by simp[dstOk,hds,hd]) hda ho (fun e=>hE▸Does.arg (hP e).1 (hP e).2.at.1 (hP e).2.at.2) hfl rfl hks ?_
 rw[hds];exact h
end
end Go.Eng
end
