import Derived.Test.YtgpkkllbejgmlaaGreatDoorZz14
import Derived.Test.YtgpkkllbejgmlaaGreatDoorZz12
set_option linter.unusedSimpArgs false
set_option linter.unusedVariables false
set_option maxRecDepth 10000
namespace Go.Proofs.YtgpkkllbejgmlaaGreatDoor
section
open Go.Eng
structure Cnd where
 clause:Int
 is:Int
structure Act where
 kind:Int
 role:Int
 give:Int
 to:Int
 unit:Int
 lot:Q
structure Cl where
 kind:Int
 role:Int
 act:Int
 need:Int
 start:List Cnd
 after:Int
 grace:Int
 business:Bool
 final:Bool
 pause:Int
 resume:Int
 value:Q
 unit:Int
 to:Int
 waived:Bool
structure K where
 parties:Int
 holders:List Int
 units:List U
 acts:List Act
 clauses:List Cl
 days:Int
 off:List Int
instance:Inhabited Cnd:=⟨⟨0,0⟩⟩
instance:Inhabited Act:=⟨⟨0,0,0,0,0,(0,0)⟩⟩
instance:Inhabited Cl:=⟨⟨0,0,0,0,[],0,0,false,false,0,0,(0,0),0,0,false⟩⟩
def iC (z:Int):List AV:=[.c (.int .i64 z)]
def bC (b:Bool):List AV:=[.c (.bool b)]
def cndC (x:Cnd):List AV:=[.c (.int .i64 x.clause),.c (.int .i64 x.is)]
def actC (a:Act):List AV:=[.c (.int .i64 a.kind),.c (.int .i64 a.role),.c (.int .i64 a.give),.c (.int .i64 a.to),.c (.int .i64 a.unit),.c (.int .i64 a.lot.1),.c (.int .i64 a.lot.2)]
def intsV (l:List Int):AV:=rowL iC 1 l
def boolsV (l:List Bool):AV:=rowL bC 1 l
def cndsV (l:List Cnd):AV:=rowL cndC 2 l
def actsV (l:List Act):AV:=rowL actC 7 l
def unitsV (l:List U):AV:=rowL uc 5 l
def clC (k:Cl):List AV:=[.c (.int .i64 k.kind),.c (.int .i64 k.role),.c (.int .i64 k.act),.c (.int .i64 k.need),cndsV k.start,.c (.int .i64 k.after),.c (.int .i64 k.grace),.c (.bool k.business),.c (.bool k.final),.c (.int .i64 k.pause),.c (.int .i64 k.resume),.c (.int .i64 k.value.1),.c (.int .i64 k.value.2),.c (.int .i64 k.unit),.c (.int .i64 k.to),.c (.bool k.waived)]
def clsV (l:List Cl):AV:=rowL clC 16 l
def kC (k:K):List AV:=[.c (.int .i64 k.parties),intsV k.holders,unitsV k.units,actsV k.acts,clsV k.clauses,.c (.int .i64 k.days),intsV k.off]
def kV (k:K):AV:=.agg [.c (.int .i64 k.parties),intsV k.holders,unitsV k.units,actsV k.acts,clsV k.clauses,.c (.int .i64 k.days),intsV k.off]
def cndW (x:Cnd):Prop:=inK .i64 x.clause∧inK .i64 x.is
def actW (a:Act):Prop:=inK .i64 a.kind∧inK .i64 a.role∧inK .i64 a.give∧inK .i64 a.to∧inK .i64 a.unit∧qW a.lot
def clW (k:Cl):Prop:=inK .i64 k.kind∧inK .i64 k.role∧inK .i64 k.act∧inK .i64 k.need∧(∀x∈k.start,cndW x)∧inK .i64 k.after∧inK .i64 k.grace∧inK .i64 k.pause∧inK .i64 k.resume∧qW k.value∧inK .i64 k.unit∧inK .i64 k.to
def kW (k:K):Prop:=inK .i64 k.parties∧(∀z∈k.holders,inK .i64 z)∧(∀u∈k.units,uW u)∧(∀a∈k.acts,actW a)∧(∀x∈k.clauses,clW x)∧inK .i64 k.days∧∀z∈k.off,inK .i64 z
noncomputable def cBool:Codec Tryz.prog 4 Bool:=Codec.bool (show Tryz.prog.underlying 4=some .bool from by kernel_rfl) (by kernel_rfl)
noncomputable def cInts:Codec Tryz.prog 22 (List Int):=Codec.slice cInt ty22_k (by decide) (by kernel_rfl)
noncomputable def cCnd:Codec Tryz.prog 156 Cnd:=(Codec.struct ty156_k rfl (.cons cInt (.cons cInt (.nil _ _))) (by kernel_rfl)).map (fun x=>⟨x.1,x.2.1⟩) cndC cndW (fun _=>rfl) (fun _=>rfl) (fun _ h=>⟨h.1,h.2.1⟩)
noncomputable def cCnds:Codec Tryz.prog 57 (List Cnd):=Codec.slice cCnd ty57_k (by decide) (by kernel_rfl)
noncomputable def cAct:Codec Tryz.prog 92 Act:=(Codec.struct ty92_k rfl (.cons cInt (.cons cInt (.cons cInt (.cons cInt (.cons cInt (.cons cQ (.nil _ _))))))) (by kernel_rfl)).map (fun x=>⟨x.1,x.2.1,x.2.2.1,x.2.2.2.1,x.2.2.2.2.1,x.2.2.2.2.2.1⟩) actC actW (fun _=>rfl) (fun _=>rfl) (fun _ h=>⟨h.1,h.2.1,h.2.2.1,h.2.2.2.1,h.2.2.2.2.1,h.2.2.2.2.2.1⟩)
noncomputable def cActs:Codec Tryz.prog 24 (List Act):=Codec.slice cAct ty24_k (by decide) (by kernel_rfl)
noncomputable def cCl:Codec Tryz.prog 61 Cl:=(Codec.struct ty61_k rfl (.cons cInt (.cons cInt (.cons cInt (.cons cInt (.cons cCnds (.cons cInt (.cons cInt (.cons cBool (.cons cBool (.cons cInt (.cons cInt (.cons cQ (.cons cInt (.cons cInt (.cons cBool (.nil _ _)))))))))))))))) (by kernel_rfl)).map
 (fun⟨a,b,c,d,e,f,g,h,i,j,k,l,m,n,o,_⟩=>⟨a,b,c,d,e,f,g,h,i,j,k,l,m,n,o⟩) clC clW (fun _=>rfl) (fun _=>rfl) (fun _ ⟨a,b,c,d,e,f,g,_,_,j,k,l,m,n,_⟩=>⟨a,b,c,d,e,f,g,j,k,l,m,n⟩)
noncomputable def cCls:Codec Tryz.prog 25 (List Cl):=Codec.slice cCl ty25_k (by decide) (by kernel_rfl)
noncomputable def cK:Codec Tryz.prog 27 K:=(Codec.struct ty27_k rfl (.cons cInt (.cons cInts (.cons cUs (.cons cActs (.cons cCls (.cons cInt (.cons cInts (.nil _ _)))))))) (by kernel_rfl)).map
 (fun⟨a,b,c,d,e,f,g,_⟩=>⟨a,b,c,d,e,f,g⟩) kC kW (fun _=>rfl) (fun _=>rfl) (fun _ ⟨a,b,c,d,e,f,g,_⟩=>⟨a,b,c,d,e,f,g⟩)
end
section
open Go.Eng
def movB (k:K) (r:Int):Bool:=decide (0≤r)&&decide (r<k.holders.length)
def posB (q:Q):Bool:=decide (0<q.1)&&qOk q
theorem movable_ok (k:K) (r:Int):Does Tryz.prog 80 [kV k,.c (.int .i64 r)] (.c (.bool (movB k r))):=by
 refine Does.mk (fun _=>false) TT_ok Tryz.func80 rfl (by kernel_rfl) Tryz.ntmps80 rfl rfl fun E hT hE hN hR=>?_
 have hm:=mixO hE
 refine XK.w ?_
 refine XK.q ?_
 simp[movB]
theorem none_ok:Does Tryz.prog 78 [] (qv (0,1)):=by
 refine Does.mk (fun _=>false) TT_ok Tryz.func78 rfl (by kernel_rfl) Tryz.ntmps78 rfl rfl fun E hT hE hN hR=>?_
 have hm:=mixO hE
 refine XK.w ?_
 refine XK.q ?_
 rfl
theorem positive_ok (q:Q) (h:qW q):Does Tryz.prog 79 [qv q] (.c (.bool (posB q))):=by
 refine Does.mk (fun _=>false) TT_ok Tryz.func79 rfl (by kernel_rfl) Tryz.ntmps79 rfl rfl fun E hT hE hN hR=>?_
 have hm:=mixO hE
 refine XK.r ?_
 refine XL.callGA hE rfl rfl rfl rfl rfl rfl rfl rfl (valid_ok q h) rfl ?_
 refine XL.e ?_
 refine XK.w ?_
 refine XK.q ?_
 simp[posB]
def actAt (k:K) (i:Int):Act:=k.acts.getD i.toNat default
def natB (k:K) (i:Int):Bool:=decide (0≤i)&&decide (i<k.acts.length)&&(actAt k i).kind==1&&(actAt k i).role==-1
theorem natural_ok (k:K) (i:Int):Does Tryz.prog 77 [kV k,.c (.int .i64 i)] (.c (.bool (natB k i))):=by
 refine Does.mk (fun _=>false) TT_ok Tryz.func77 rfl (by kernel_rfl) Tryz.ntmps77 rfl rfl fun E hT hE hN hR=>?_
 have hm:=mixO hE
 refine XK.w ?_
 refine XK.q ?_
 rfl
def kindB (k:K) (x:Cl):Bool:=
 if x.kind=4 then x.role==-1&&x.need==1&&x.grace==0&&!x.final
 else if !movB k x.role||natB k x.act then false
 else if x.kind=1 then decide (1≤x.need)&&decide (x.need≤9)&&decide (0≤x.grace)&&decide (x.grace≤400)
 else if x.kind=2 then x.need==1&&x.grace==0
 else if x.kind=3 then x.need==1&&x.grace==0&&!x.final
 else false
theorem validKind_ok (k:K) (x:Cl):Does Tryz.prog 76 [kV k,.agg (clC x)] (.c (.bool (kindB k x))):=by
 refine Does.mk (fun _=>false) TT_ok Tryz.func76 rfl (by kernel_rfl) Tryz.ntmps76 rfl rfl fun E hT hE hN hR=>?_
 have hm:=mixO hE
 refine XK.c ?_ ?_<;>intro h4<;>try simp at h4
 ·refine XK.w ?_
  refine XK.q ?_
  simp[kindB,h4]
 ·refine XK.r ?_
  refine XL.callLA hE rfl rfl rfl rfl trivial rfl (movable_ok k x.role) rfl ?_
  refine XL.g ?_
  refine XL.callGA hE rfl rfl rfl rfl rfl rfl rfl rfl (natural_ok k x.act) rfl ?_
  refine XL.e ?_
  refine XK.c ?_ ?_<;>intro hm
  ·refine XK.w ?_
   refine XK.q ?_
   simp[kindB,h4,hm]
  ·refine XK.c ?_ ?_<;>intro h1<;>try simp at h1
   ·refine XK.w ?_
    refine XK.q ?_
    simp[kindB,h4,hm,h1]
   ·refine XK.c ?_ ?_<;>intro h2<;>try simp at h2
    ·refine XK.w ?_
     refine XK.q ?_
     simp[kindB,h4,hm,h1,h2]
    ·refine XK.c ?_ ?_<;>intro h3<;>try simp at h3
     ·refine XK.w ?_
      refine XK.q ?_
      simp[kindB,h4,hm,h1,h2,h3]
     ·refine XK.w ?_
      refine XK.q ?_
      simp[kindB,h4,hm,h1,h2,h3]
end
section
open Go.Eng
def actB (k:K) (a:Act):Bool:=
 if !movB k a.role then a.kind==1&&a.role==-1&&a.give==0&&(a.to==-1||movB k a.to)&&a.unit==-1&&(a.lot.1==0&&a.lot.2==1)
 else if a.kind=1 then
  if a.give≠0∨(a.to≠-1∧movB k a.to=false) then false
  else if a.unit=-1 then a.lot.1==0&&a.lot.2==1
  else decide (0≤a.unit)&&decide (a.unit<k.units.length)&&posB a.lot
 else if a.kind=2∨a.kind=3 then movB k a.give&&decide (0≤a.to)&&decide (a.to<k.parties)&&a.unit==-1&&(a.lot.1==0&&a.lot.2==1)
 else false
theorem validAct_ok (k:K) (a:Act) (ha:actW a):Does Tryz.prog 75 [kV k,.agg (actC a)] (.c (.bool (actB k a))):=by
 refine Does.mk (fun _=>false) TT_ok Tryz.func75 rfl (by kernel_rfl) Tryz.ntmps75 rfl rfl fun E hT hE hN hR=>?_
 have hm:=mixO hE
 refine XK.r ?_
 refine XL.callLA hE rfl rfl rfl rfl trivial rfl (movable_ok k a.role) rfl ?_
 refine XL.e ?_
 refine XK.c ?_ ?_<;>intro hv
 ·refine XK.s ?_
  refine XD.callGA hE rfl rfl rfl rfl rfl rfl rfl rfl rfl (movable_ok k a.to) rfl ?_
  refine XD.g ?_
  refine XD.callGA hE rfl rfl rfl rfl rfl rfl rfl rfl rfl (none_ok) rfl ?_
  refine XD.e ?_
  refine XK.w ?_
  refine XK.q ?_
  simp[actB,hv]
 ·refine XK.c ?_ ?_<;>intro h1<;>try simp at h1
  ·refine XK.r ?_
   refine XL.callGA hE rfl rfl rfl rfl rfl rfl rfl rfl (movable_ok k a.to) rfl ?_
   refine XL.e ?_
   refine XK.c ?_ ?_<;>intro hx<;>try simp at hx
   ·refine XK.w ?_
    refine XK.q ?_
    simp[actB,hv,h1,hx]
   ·have hx2:a.to=-1∨movB k a.to=true:=by
     by_cases h:a.to=-1
     ·exact .inl h
     ·exact .inr (hx.2 h)
    refine XK.c ?_ ?_<;>intro hu<;>try simp at hu
    ·refine XK.s ?_
     refine XD.callLA hE rfl rfl rfl rfl trivial rfl (none_ok) rfl ?_
     refine XD.e ?_
     refine XK.w ?_
     refine XK.q ?_
     simp[actB,hv,h1,hx,hu]
     exact fun _ _=>hx2
    ·refine XK.r ?_
     refine XL.callGA hE rfl rfl rfl rfl rfl rfl rfl rfl (positive_ok a.lot ha.2.2.2.2.2) rfl ?_
     refine XL.e ?_
     refine XK.w ?_
     refine XK.q ?_
     simp[actB,hv,h1,hx,hu]
     exact fun _ _ _=>hx2
  ·refine XK.c ?_ ?_<;>intro h2<;>try simp at h2
   ·refine XK.c ?_ ?_<;>intro h3<;>try simp at h3
    ·refine XK.s ?_
     refine XD.callLA hE rfl rfl rfl rfl trivial rfl (movable_ok k a.give) rfl ?_
     refine XD.g ?_
     refine XD.callGA hE rfl rfl rfl rfl rfl rfl rfl rfl rfl (none_ok) rfl ?_
     refine XD.e ?_
     refine XK.w ?_
     refine XK.q ?_
     simp[actB,hv,h1,h2]
    ·exact absurd h2 h3
   ·refine XK.c ?_ ?_<;>intro h3<;>try simp at h3
    ·refine XK.s ?_
     refine XD.callLA hE rfl rfl rfl rfl trivial rfl (movable_ok k a.give) rfl ?_
     refine XD.g ?_
     refine XD.callGA hE rfl rfl rfl rfl rfl rfl rfl rfl rfl (none_ok) rfl ?_
     refine XD.e ?_
     refine XK.w ?_
     refine XK.q ?_
     simp[actB,hv,h1,h2,h3]
    ·refine XK.w ?_
     refine XK.q ?_
     simp[actB,hv,h1,h2,h3]
end
section
open Go.Eng
def heldB (k:K):Bool:=k.holders.all (fun h=>decide (0≤h)&&decide (h<k.parties))
theorem all_at {α:Type} [Inhabited α] {p:α→Bool} {l:List α}:l.all p=true↔∀i,i<l.length→p (l.getD i default)=true:=by
 rw[List.all_eq_true]
 constructor
 ·intro h i hi
  simp only[List.getD_eq_getElem?_getD,List.getElem?_eq_getElem hi,Option.getD_some]
  exact h _ (List.getElem_mem hi)
 ·intro h x hx
  obtain⟨i,hi,rfl⟩:=List.getElem_of_mem hx
  have:=h i hi
  simpa only[List.getD_eq_getElem?_getD,List.getElem?_eq_getElem hi,Option.getD_some] using this
theorem all_not {α:Type} [Inhabited α] {p:α→Bool} {l:List α} {i:Nat} (hi:i<l.length) (h:p (l.getD i default)=false):l.all p=false:=by
 rw[←Bool.not_eq_true,all_at]
 intro h2
 rw[h2 i hi] at h
 cases h
theorem held_ok (k:K) (hk:kW k):Does Tryz.prog 73 [kV k] (.c (.bool (heldB k))):=by
 refine Does.mk (fun _=>false) TT_ok Tryz.func73 rfl (by kernel_rfl) Tryz.ntmps73 rfl rfl fun E hT hE hN hR=>?_
 have hm:=mixO hE
 have hp:-9223372036854775808≤k.parties∧k.parties≤9223372036854775807:=hk.1
 refine XK.w ?_
 refine XK.fact (Sat.rs_len (j:=6) rfl) fun hlen=>?_
 have hm':=hlen.1
 refine XK.loop (ι:=Nat) (fun i=>ST.of [(1,.ptr 1 0),(7,.c (.int .i64 k.holders.length)),(8,.c (.int .i64 i))] [(1,.cells 27 (kC k))] 1000 25 (fun _=>false))
  (fun i=>i≤k.holders.length∧∀j,j<i→(decide (0≤k.holders.getD j default)&&decide (k.holders.getD j default<k.parties))=true) (fun i=>k.holders.length-i) 0 ⟨Nat.zero_le _,fun j hj=>absurd hj (Nat.not_lt_zero _)⟩
  (Weak.of hN rfl rfl rfl ⟨rfl,rfl,rfl⟩ ⟨rfl,rfl⟩) fun i hi=>?_
 obtain⟨hi1,hi2⟩:=hi
 refine XK.c ?_ ?_<;>intro hlt<;>try simp at hlt
 ·refine XK.w ?_
  refine XK.loop (ι:=Nat) (fun p=>ST.of [(1,.ptr 1 0),(3,.c (.int .i64 i)),(7,.c (.int .i64 k.holders.length)),(8,.c (.int .i64 i)),(12,.c (.int .i64 k.parties)),(13,.c (.int .i64 p))] [(1,.cells 27 (kC k))] 2000 25 (fun _=>false))
   (fun p=>(p=0∨(p:Int)≤k.parties)∧∀q:Nat,q<p→k.holders.getD i default≠q) (fun p=>k.parties.toNat-p) 0 ⟨.inl rfl,fun j hj=>absurd hj (Nat.not_lt_zero _)⟩
   (Weak.of hN rfl rfl rfl ⟨rfl,rfl,rfl,rfl,rfl,rfl⟩ ⟨rfl,rfl⟩) fun p hp2=>?_
  obtain⟨hp1,hp2⟩:=hp2
  refine XK.c ?_ ?_<;>intro hc<;>try simp at hc
  ·refine XK.c ?_ ?_<;>intro he<;>try simp at he
   ·refine XK.w ?_
    refine XK.inv ⟨i+1,⟨hlt,fun j hj=>?_⟩,Weak.of hN rfl rfl rfl ⟨rfl,rfl,rfl⟩ ⟨rfl,rfl⟩,by omega⟩
    by_cases h:j=i
    ·subst h
     have he:k.holders.getD j default=p:=by simpa using he
     rw[he]
     simp
     omega
    ·exact hi2 j (by omega)
   ·refine XK.w ?_
    refine XK.inv ⟨p+1,⟨.inr (by omega),fun q hq=>?_⟩,Weak.of hN rfl rfl rfl ⟨rfl,rfl,rfl,rfl,rfl,rfl⟩ ⟨rfl,rfl⟩,by omega⟩
    by_cases h:q=p
    ·subst h
     simpa using he
    ·exact hp2 q (by omega)
  ·refine XK.w ?_
   refine XK.q ?_
   refine cB ?_
   symm
   refine all_not hlt ?_
   by_cases h0:0≤k.holders.getD i default
   ·have:=hp2 (k.holders.getD i default).toNat
    simp only[Bool.and_eq_false_iff,decide_eq_false_iff_not]
    right
    intro h1
    exact hp2 (k.holders.getD i default).toNat (by omega) (by omega)
   ·simp only[Bool.and_eq_false_iff,decide_eq_false_iff_not]
    exact .inl h0
 ·refine XK.w ?_
  refine XK.q ?_
  refine cB ?_
  symm
  exact all_at.2 fun j hj=>hi2 j (by omega)
end
section
open Go.Eng
def offPrev (k:K) (i:Nat):Int:=if i=0 then -1 else k.off.getD (i-1) default
def offB (k:K):Bool:=(List.range k.off.length).all (fun i=>decide (offPrev k i<k.off.getD i default)&&decide (k.off.getD i default<k.days))
noncomputable def framedB (k:K):Bool:=
 if k.parties<1∨k.days<1∨k.holders.length=0∨heldB k=false then false
 else if(validR (fun j=>k.units.getD j default) k.units.length).2=false then false
 else k.acts.all (actB k)&&offB k
theorem framed_ok (k:K) (hk:kW k):Does Tryz.prog 45 [kV k] (.c (.bool (framedB k))):=by
 refine Does.mk (fun _=>false) TT_ok Tryz.func45 rfl (by kernel_rfl) Tryz.ntmps45 rfl rfl fun E hT hE hN hR=>?_
 have hm:=mixO hE
 refine XK.r ?_
 refine XL.callGA hE rfl rfl rfl rfl rfl rfl rfl rfl (held_ok k hk) rfl ?_
 refine XL.e ?_
 refine XK.c ?_ ?_<;>intro h1
 ·refine XK.w ?_
  refine XK.q ?_
  have:k.parties<1∨k.days<1∨k.holders.length=0∨heldB k=false:=by
   simp only[Bool.or_eq_true,decide_eq_true_eq,beq_iff_eq,Bool.not_eq_true'] at h1
   rcases h1 with((h|h)|h)|h
   ·exact .inl h
   ·exact .inr (.inl h)
   ·exact .inr (.inr (.inl (by omega)))
   ·exact .inr (.inr (.inr h))
  simp only[framedB,if_pos this]
 ·have h1':¬(k.parties<1∨k.days<1∨k.holders.length=0∨heldB k=false):=by
   intro h
   rcases h with h|h|h|h<;>simp[h] at h1
  refine XK.r ?_
  refine XL.callLA hE rfl rfl rfl rfl trivial rfl (qvalid_ok k.units.length (fun j=>k.units.getD j default) (all_getD hk.2.2.1)) rfl ?_
  refine XL.e ?_
  refine XK.c ?_ ?_<;>intro h2
  ·refine XK.w ?_
   refine XK.q ?_
   have:(validR (fun j=>k.units.getD j default) k.units.length).2=false:=by simpa using h2
   simp only[framedB,if_neg h1',if_pos this]
  ·have h2':¬(validR (fun j=>k.units.getD j default) k.units.length).2=false:=by
    simpa using h2
   refine XK.w ?_
   refine XK.fact (Sat.rs_len (j:=38) rfl) fun hlen=>?_
   have hm':=hlen.1
   refine XK.loop (ι:=Nat) (fun i=>ST.of [(1,.ptr 1 0),(38,actsV k.acts),(39,.c (.int .i64 k.acts.length)),(40,.c (.int .i64 i))] [(1,.cells 27 (kC k))] 1000 67 (fun _=>false))
    (fun i=>i≤k.acts.length∧∀j,j<i→actB k (k.acts.getD j default)=true) (fun i=>k.acts.length-i) 0 ⟨Nat.zero_le _,fun j hj=>absurd hj (Nat.not_lt_zero _)⟩
    (Weak.of hN rfl rfl rfl ⟨rfl,AvIs.refl _,rfl,rfl⟩ ⟨rfl,rfl⟩) fun i hi=>?_
   obtain⟨hi1,hi2⟩:=hi
   refine XK.c ?_ ?_<;>intro hlt<;>try simp at hlt
   ·refine XK.r ?_
    refine XL.callLA hE rfl rfl rfl rfl trivial rfl (validAct_ok k (k.acts.getD i default) (all_getD hk.2.2.2.1 i hlt)) rfl ?_
    refine XL.e ?_
    refine XK.c ?_ ?_<;>intro ha
    ·refine XK.w ?_
     refine XK.q ?_
     have:k.acts.all (actB k)=false:=all_not hlt (by simpa using ha)
     simp only[framedB,if_neg h1',if_neg h2',this,Bool.false_and]
    ·refine XK.w ?_
     refine XK.inv ⟨i+1,⟨hlt,fun j hj=>?_⟩,Weak.of hN rfl rfl rfl ⟨rfl,AvIs.refl _,rfl,rfl⟩ ⟨rfl,rfl⟩,by omega⟩
     by_cases h:j=i
     ·subst h;simpa using ha
     ·exact hi2 j (by omega)
   ·have hacts:k.acts.all (actB k)=true:=all_at.2 fun j hj=>hi2 j (by omega)
    refine XK.w ?_
    refine XK.fact (Sat.rs_len (j:=50) rfl) fun hlen=>?_
    have hm'':=hlen.1
    refine XK.loop (ι:=Nat) (fun i=>ST.of [(1,.ptr 1 0),(7,.c (.int .i64 (offPrev k i))),(50,intsV k.off),(51,.c (.int .i64 k.off.length)),(52,.c (.int .i64 i))] [(1,.cells 27 (kC k))] 1000 67 (fun _=>false))
     (fun i=>i≤k.off.length∧∀j,j<i→(decide (offPrev k j<k.off.getD j default)&&decide (k.off.getD j default<k.days))=true) (fun i=>k.off.length-i) 0 ⟨Nat.zero_le _,fun j hj=>absurd hj (Nat.not_lt_zero _)⟩
     (Weak.of hN rfl rfl rfl ⟨rfl,rfl,AvIs.refl _,rfl,rfl⟩ ⟨rfl,rfl⟩) fun i hi=>?_
    obtain⟨hi1,hi2⟩:=hi
    refine XK.c ?_ ?_<;>intro hlt<;>try simp at hlt
    ·refine XK.c ?_ ?_<;>intro ho
     ·refine XK.w ?_
      refine XK.q ?_
      have:offB k=false:=by
       unfold offB
       rw[List.all_eq_false]
       refine⟨i,by simpa using hlt,?_⟩
       simp only[Bool.or_eq_true,decide_eq_true_eq,Int.toNat_natCast] at ho
       simp only[Bool.and_eq_true,decide_eq_true_eq,not_and]
       omega
      simp only[framedB,if_neg h1',if_neg h2',this,Bool.and_false]
     ·refine XK.w ?_
      refine XK.inv ⟨i+1,⟨hlt,fun j hj=>?_⟩,Weak.of hN rfl rfl rfl ⟨rfl,rfl,AvIs.refl _,rfl,rfl⟩ ⟨rfl,rfl⟩,by omega⟩
      by_cases h:j=i
      ·subst h
       simp only[Bool.or_eq_false_iff,decide_eq_false_iff_not,Int.toNat_natCast] at ho
       simp only[Bool.and_eq_true,decide_eq_true_eq]
       omega
      ·exact hi2 j (by omega)
    ·refine XK.w ?_
     refine XK.q ?_
     have:offB k=true:=by
      simp only[offB,List.all_eq_true,List.mem_range]
      exact fun j hj=>hi2 j (by omega)
     simp only[framedB,if_neg h1',if_neg h2',hacts,this,Bool.and_self]
end
section
open Go.Eng
def condB (k:K) (i:Int) (s:Cnd):Bool:=!(decide (s.clause<0)||decide ((k.clauses.length:Int)≤s.clause)||s.clause==i||decide (s.is<1)||decide (4<s.is))
def clauseB (k:K) (i:Int) (x:Cl):Bool:=
 if(decide (x.act<0)||decide ((k.acts.length:Int)≤x.act)||decide (x.after<1)||decide (400<x.after))=true then false
 else if(!kindB k x||decide ((8:Int)<x.start.length))=true then false
 else if x.start.all (condB k i)=false then false
 else if(x.pause≠-1∨x.resume≠-1)∧(x.pause==x.resume||!natB k x.pause||!natB k x.resume)=true then false
 else if x.unit=-1 then(x.value.1==0&&x.value.2==1)&&x.to==-1
 else(x.kind==1||x.kind==2)&&decide (0≤x.unit)&&decide (x.unit<k.units.length)&&(k.units.getD x.unit.toNat default).kind==2&&posB x.value&&movB k x.to
theorem validClause_ok (k:K) (hk:kW k) (i:Nat) (hi:i<k.clauses.length):Does Tryz.prog 46 [kV k,.c (.int .i64 i)] (.c (.bool (clauseB k i (k.clauses.getD i default)))):=by
 refine Does.mk (fun _=>false) TT_ok Tryz.func46 rfl (by kernel_rfl) Tryz.ntmps46 rfl rfl fun E hT hE hN hR=>?_
 have hm:=mixO hE
 have hx:=all_getD hk.2.2.2.2.1 i hi
 refine XK.w ?_
 refine XK.weak (Weak.of (L:=[(1,.c (.int .i64 i)),(2,.ptr 2 0),(4,.c (.bool false)),(5,.ptr 165 0),(33,.c (.bool (decide ((k.clauses.getD i default).act<0)||decide ((k.acts.length:Int)≤(k.clauses.getD i default).act)||decide ((k.clauses.getD i default).after<1)||decide (400<(k.clauses.getD i default).after))))]) (O:=[(2,.cells 27 (kC k)),(165,.cells 61 (clC (k.clauses.getD i default)))]) (nx:=1000) (nt:=160) (md:=fun _=>false) hN rfl rfl rfl ⟨rfl,rfl,rfl,rfl,rfl⟩ ⟨⟨rfl,rfl⟩,rfl,rfl⟩) ?_
 generalize k.clauses.getD i default=x at*
 refine XK.c ?_ ?_<;>intro h1
 ·refine XK.w ?_
  refine XK.q ?_
  simp only[clauseB,if_pos h1]
 ·rw[clauseB,if_neg (by rw[h1];simp)]
  refine XK.r ?_
  refine XL.callLA hE rfl rfl rfl rfl trivial rfl (validKind_ok k x) rfl ?_
  refine XL.e ?_
  refine XK.c ?_ ?_<;>intro h2
  ·refine XK.w ?_
   refine XK.q ?_
   simp only[if_pos h2]
  ·rw[if_neg (by rw[h2];simp)]
   refine XK.w ?_
   refine XK.fact (Sat.rs_len (j:=45) rfl) fun hlen=>?_
   have hm':=hlen.1
   refine XK.loop (ι:=Nat) (fun j=>ST.of [(1,.c (.int .i64 i)),(2,.ptr 2 0),(4,.c (.bool false)),(5,.ptr 165 0),(45,cndsV x.start),(46,.c (.int .i64 x.start.length)),(47,.c (.int .i64 j))] [(2,.cells 27 (kC k)),(165,.cells 61 (clC x))] 3000 160 (fun _=>false))
    (fun j=>j≤x.start.length∧∀q,q<j→condB k i (x.start.getD q default)=true) (fun j=>x.start.length-j) 0 ⟨Nat.zero_le _,fun j hj=>absurd hj (Nat.not_lt_zero _)⟩
    (Weak.of hN rfl rfl rfl ⟨rfl,rfl,rfl,rfl,AvIs.refl _,rfl,rfl⟩ ⟨⟨rfl,rfl⟩,rfl,rfl⟩) fun j hj=>?_
   obtain⟨hj1,hj2⟩:=hj
   refine XK.c ?_ ?_<;>intro hlt<;>try simp at hlt
   ·refine XK.c ?_ ?_<;>intro hb
    ·refine XK.w ?_
     refine XK.q ?_
     have:x.start.all (condB k i)=false:=all_not hlt (by rw[condB,Bool.not_eq_false'];exact hb)
     rw[if_pos this]
    ·refine XK.w ?_
     refine XK.inv ⟨j+1,⟨hlt,fun q hq=>?_⟩,Weak.of hN rfl rfl rfl ⟨rfl,rfl,rfl,rfl,AvIs.refl _,rfl,rfl⟩ ⟨⟨rfl,rfl⟩,rfl,rfl⟩,by omega⟩
     by_cases h:q=j
     ·subst h
      rw[condB,Bool.not_eq_true']
      exact hb
     ·exact hj2 q (by omega)
   ·have hall:x.start.all (condB k i)=true:=all_at.2 fun q hq=>hj2 q (by omega)
    rw[if_neg (by rw[hall];simp)]
    refine XK.c ?_ ?_<;>intro hp<;>try simp at hp
    ·refine XK.r ?_
     refine XL.callGA hE rfl rfl rfl rfl rfl rfl rfl rfl (natural_ok k x.pause) rfl ?_
     refine XL.g ?_
     refine XL.callGA hE rfl rfl rfl rfl rfl rfl rfl rfl (natural_ok k x.resume) rfl ?_
     refine XL.e ?_
     refine XK.c ?_ ?_<;>intro hq
     ·refine XK.w ?_
      refine XK.q ?_
      rw[if_pos ⟨by simpa using hp,hq⟩]
     ·rw[if_neg (by rw[hq];simp)]
      refine XK.c ?_ ?_<;>intro hu<;>try simp at hu
      ·refine XK.s ?_
       refine XD.callLA hE rfl rfl rfl rfl trivial rfl (none_ok) rfl ?_
       refine XD.e ?_
       rw[if_pos hu]
       refine XK.w ?_
       refine XK.q ?_
       rfl
      ·rw[if_neg hu]
       refine XK.r ?_
       refine XL.callGA hE rfl rfl rfl rfl rfl rfl rfl rfl (positive_ok x.value hx.2.2.2.2.2.2.2.2.2.1) rfl ?_
       refine XL.g ?_
       refine XL.callGA hE rfl rfl rfl rfl rfl rfl rfl rfl (movable_ok k x.to) rfl ?_
       refine XL.e ?_
       refine XK.w ?_
       refine XK.q ?_
       rfl
    ·rw[if_neg (by simp[hp])]
     refine XK.c ?_ ?_<;>intro hu<;>try simp at hu
     ·refine XK.s ?_
      refine XD.callLA hE rfl rfl rfl rfl trivial rfl (none_ok) rfl ?_
      refine XD.e ?_
      rw[if_pos hu]
      refine XK.w ?_
      refine XK.q ?_
      rfl
     ·rw[if_neg hu]
      refine XK.r ?_
      refine XL.callGA hE rfl rfl rfl rfl rfl rfl rfl rfl (positive_ok x.value hx.2.2.2.2.2.2.2.2.2.1) rfl ?_
      refine XL.g ?_
      refine XL.callGA hE rfl rfl rfl rfl rfl rfl rfl rfl (movable_ok k x.to) rfl ?_
      refine XL.e ?_
      refine XK.w ?_
      refine XK.q ?_
      rfl
end
section
open Go.Eng
def badCl (k:K):Option Nat:=(List.range k.clauses.length).find? (fun i=>!clauseB k i (k.clauses.getD i default))
noncomputable def kValid (k:K):Int×Int:=
 if(decide (12<k.parties)||decide (2000<k.days)||decide ((12:Int)<k.holders.length)||decide ((20:Int)<k.units.length)||decide ((60:Int)<k.acts.length)||decide ((400:Int)<k.clauses.length))=true then(3,-1)
 else if framedB k=false then(1,-1)
 else match badCl k with
  |some i=>(1,(i:Int))
  |none=>(0,-1)
theorem find_range {p:Nat→Bool} {n i:Nat} (hi:i<n) (h:p i=true) (hl:∀j,j<i→p j=false):(List.range n).find? p=some i:=by
 rw[List.find?_range_eq_some]
 exact⟨h,by simpa using hi,fun j hj=>by simpa using hl j hj⟩
theorem kValid_ok (k:K) (hk:kW k):Does Tryz.prog 24 [kV k] (.tup [.c (.int .i64 (kValid k).1),.c (.int .i64 (kValid k).2)]):=by
 refine Does.mk (fun _=>false) TT_ok Tryz.func24 rfl (by kernel_rfl) Tryz.ntmps24 rfl rfl fun E hT hE hN hR=>?_
 have hm:=mixO hE
 refine XK.c ?_ ?_<;>intro h1
 ·refine XK.w ?_
  refine XK.q ?_
  simp only[kValid,if_pos h1]
 ·rw[kValid,if_neg (by rw[h1];simp)]
  refine XK.r ?_
  refine XL.callLA hE rfl rfl rfl rfl trivial rfl (framed_ok k hk) rfl ?_
  refine XL.e ?_
  refine XK.c ?_ ?_<;>intro h2<;>try simp at h2
  ·refine XK.w ?_
   refine XK.q ?_
   simp only[if_pos h2]
  ·rw[if_neg (by rw[h2];simp)]
   refine XK.w ?_
   refine XK.loop (ι:=Nat) (fun j=>ST.of [(1,.ptr 1 0),(42,.c (.int .i64 k.clauses.length)),(43,.c (.int .i64 j))] [(1,.cells 27 (kC k))] 3000 52 (fun _=>false))
    (fun j=>j≤k.clauses.length∧∀q,q<j→clauseB k q (k.clauses.getD q default)=true) (fun j=>k.clauses.length-j) 0 ⟨Nat.zero_le _,fun j hj=>absurd hj (Nat.not_lt_zero _)⟩
    (Weak.of hN rfl rfl rfl ⟨rfl,rfl,rfl⟩ ⟨rfl,rfl⟩) fun j hj=>?_
   obtain⟨hj1,hj2⟩:=hj
   refine XK.c ?_ ?_<;>intro hlt<;>try simp at hlt
   ·refine XK.r ?_
    refine XL.callLA hE rfl rfl rfl rfl trivial rfl (validClause_ok k hk j hlt) rfl ?_
    refine XL.e ?_
    refine XK.c ?_ ?_<;>intro hb
    ·refine XK.w ?_
     refine XK.q ?_
     have:badCl k=some j:=find_range hlt hb fun q hq=>by rw[hj2 q hq];rfl
     rw[this]
    ·refine XK.w ?_
     refine XK.inv ⟨j+1,⟨hlt,fun q hq=>?_⟩,Weak.of hN rfl rfl rfl ⟨rfl,rfl,rfl⟩ ⟨rfl,rfl⟩,by omega⟩
     by_cases h:q=j
     ·subst h;simpa using hb
     ·exact hj2 q (by omega)
   ·refine XK.w ?_
    refine XK.q ?_
    have:badCl k=none:=by
     unfold badCl
     rw[List.find?_eq_none]
     intro q hq
     rw[List.mem_range] at hq
     simp only[Bool.not_eq_true',Bool.not_eq_false]
     exact hj2 q (by omega)
    rw[this]
end
section
open Go.Eng
theorem lt_succ_ne {i j:Nat} (h:j≠i):(j<i+1)=(j<i):=by
 rw[eq_iff_iff];omega
def kOk (k:K):Prop:=kW k∧(kValid k).1=0
def clAt (k:K) (i:Nat):Cl:=k.clauses.getD i default
def acAt (k:K) (i:Nat):Act:=k.acts.getD i default
structure KFacts (k:K):Prop where
 w:kW k
 parties:1≤k.parties∧k.parties≤12
 days:1≤k.days∧k.days≤2000
 nh:0<k.holders.length∧k.holders.length≤12
 na:k.acts.length≤60
 nc:k.clauses.length≤400
 held:heldB k=true
 off:offB k=true
 act:∀i,i<k.acts.length→actB k (acAt k i)=true
 cl:∀i,i<k.clauses.length→clauseB k i (clAt k i)=true
theorem kOk.facts {k:K} (h:kOk k):KFacts k:=by
 obtain⟨hw,hv⟩:=h
 unfold kValid at hv
 split at hv
 ·simp at hv
 ·rename_i h1
  simp only[Bool.or_eq_true,decide_eq_true_eq,not_or] at h1
  split at hv
  ·simp at hv
  ·rename_i h2
   split at hv
   ·simp at hv
   ·rename_i h3
    have h2:framedB k=true:=by simpa using h2
    unfold framedB at h2
    split at h2
    ·cases h2
    ·rename_i h4
     simp only[not_or] at h4
     split at h2
     ·cases h2
     ·simp only[Bool.and_eq_true] at h2
      refine⟨hw,by omega,by omega,by omega,by omega,by omega,by simpa using h4.2.2.2,h2.2,fun i hi=>all_at.1 h2.1 i hi,fun i hi=>?_⟩
      have:=List.find?_eq_none.1 h3 i (by simpa using hi)
      simpa[clAt] using this
namespace KFacts
variable {k:K} (h:KFacts k)
include h
theorem clW' {i:Nat} (hi:i<k.clauses.length):clW (clAt k i):=all_getD h.w.2.2.2.2.1 i hi
theorem clB {i:Nat} (hi:i<k.clauses.length):(0≤(clAt k i).act∧(clAt k i).act<k.acts.length)∧(1≤(clAt k i).after∧(clAt k i).after≤400)∧kindB k (clAt k i)=true∧(clAt k i).start.length≤8∧(∀s∈(clAt k i).start,condB k i s=true)∧
  (((clAt k i).pause=-1∧(clAt k i).resume=-1)∨((clAt k i).pause≠(clAt k i).resume∧natB k (clAt k i).pause=true∧natB k (clAt k i).resume=true))∧
  ((clAt k i).unit=-1∧(clAt k i).value=(0,1)∧(clAt k i).to=-1∨(clAt k i).unit≠-1∧((clAt k i).kind=1∨(clAt k i).kind=2)∧(0≤(clAt k i).unit∧(clAt k i).unit<k.units.length)∧(k.units.getD (clAt k i).unit.toNat default).kind=2∧posB (clAt k i).value=true∧movB k (clAt k i).to=true):=by
 have:=h.cl i hi
 generalize clAt k i=x at*
 unfold clauseB at this
 split at this
 ·cases this
 ·rename_i h1
  simp only[Bool.or_eq_true,decide_eq_true_eq,not_or] at h1
  split at this
  ·cases this
  ·rename_i h2
   simp only[Bool.or_eq_true,Bool.not_eq_true',decide_eq_true_eq,not_or,Bool.not_eq_false] at h2
   split at this
   ·cases this
   ·rename_i h3
    have h3:∀s∈x.start,condB k i s=true:=List.all_eq_true.1 (by simpa using h3)
    split at this
    ·cases this
    ·rename_i h4
     refine⟨by omega,by omega,h2.1,by omega,h3,?_,?_⟩
     ·by_cases h5:x.pause≠-1∨x.resume≠-1
      ·right
       simp only[h5,true_and,Bool.or_eq_true,beq_iff_eq,Bool.not_eq_true',not_or,Bool.not_eq_false] at h4
       exact⟨h4.1.1,h4.1.2,h4.2⟩
      ·left;omega
     ·split at this
      ·rename_i h6
       simp only[Bool.and_eq_true,beq_iff_eq] at this
       exact .inl ⟨h6,Prod.ext this.1.1 this.1.2,this.2⟩
      ·rename_i h6
       simp only[Bool.and_eq_true,Bool.or_eq_true,beq_iff_eq,decide_eq_true_eq] at this
       exact .inr ⟨h6,this.1.1.1.1.1,⟨this.1.1.1.1.2,this.1.1.1.2⟩,this.1.1.2,this.1.2,this.2⟩
theorem cond {i:Nat} (hi:i<k.clauses.length) {s:Cnd} (hs:s∈(clAt k i).start):0≤s.clause∧s.clause<k.clauses.length∧s.clause≠i∧1≤s.is∧s.is≤4:=by
 have:=(h.clB hi).2.2.2.2.1 s hs
 simp only[condB,Bool.not_eq_true',Bool.or_eq_false_iff,decide_eq_false_iff_not,beq_eq_false_iff_ne,ne_eq] at this
 omega
end KFacts
end
section
open Go.Eng
structure Mk where
 status:Int
 left:Int
 got:Int
 bearer:Int
 paused:Bool
instance:Inhabited Mk:=⟨⟨0,0,0,0,false⟩⟩
structure Wk where
 day:Int
 hold:Nat→Int
 used:Nat→Bool
 mark:Nat→Mk
def Wk.upM (w:Wk) (i:Nat) (m:Mk):Wk:={w with mark:=fun j=>if j=i then m else w.mark j}
def runsM (m:Mk):Bool:=m.status==1||m.status==2
def endM (m:Mk) (s:Int):Mk:=⟨s,0,m.got,m.bearer,false⟩
def condHB (mk:Nat→Mk) (c:Cnd):Bool:=
 if c.is=1 then(mk c.clause.toNat).status !=0 else if c.is=2 then(mk c.clause.toNat).status==3
 else if c.is=3 then(mk c.clause.toNat).status==4 else if c.is=4 then(mk c.clause.toNat).status==5 else false
def rdyB (k:K) (mk:Nat→Mk) (i:Nat):Bool:=
 if((mk i).status !=0||(clAt k i).waived)=true then false else(clAt k i).start.all (condHB mk)
def liveM (k:K) (hold:Nat→Int) (i:Nat):Mk:=⟨1,(clAt k i).after,0,if(clAt k i).kind≠4 then hold (clAt k i).role.toNat else -1,false⟩
def passTo (k:K) (w:Wk):Nat→Wk×Bool
 |0=>(w,false)
 |i+1=>if rdyB k (passTo k w i).1.mark i=true then((passTo k w i).1.upM i (liveM k (passTo k w i).1.hold i),true) else passTo k w i
def startN (k:K):Nat→Wk→Wk
 |0,w=>w
 |f+1,w=>if(passTo k w k.clauses.length).2=true then startN k f (passTo k w k.clauses.length).1 else w
def idleN (k:K) (mk:Nat→Mk):Nat:=(List.range k.clauses.length).countP (fun i=>(mk i).status==0)
def startW (k:K) (w:Wk):Wk:=startN k (idleN k w.mark+1) w
def mapRun (f:Nat→Mk→Mk) (w:Wk) (n:Nat):Wk:={w with mark:=fun i=>if i<n∧runsM (w.mark i)=true then f i (w.mark i) else w.mark i}
def offD (k:K) (d:Int):Bool:=k.off.any (fun x=>x==d)
def expM (x:Cl) (m:Mk):Mk:=if m.status=1∧0<x.grace then⟨2,x.grace,m.got,m.bearer,m.paused⟩ else endM m 4
def dayM (x:Cl) (m:Mk):Mk:=if x.kind=1 then expM x m else if x.kind=2 then endM m 3 else endM m 5
def lessM (m:Mk):Mk:=⟨m.status,m.left-1,m.got,m.bearer,m.paused⟩
def tickM (k:K) (free:Bool) (i:Nat) (m:Mk):Mk:=
 if(m.paused||(clAt k i).business&&free)=true then m else if m.left-1=0 then dayM (clAt k i) (lessM m) else lessM m
def pauseM (k:K) (a:Int) (i:Nat) (m:Mk):Mk:=if a=(clAt k i).pause then⟨m.status,m.left,m.got,m.bearer,true⟩ else if a=(clAt k i).resume then⟨m.status,m.left,m.got,m.bearer,false⟩ else m
def moreM (m:Mk):Mk:=⟨m.status,m.left,m.got+1,m.bearer,m.paused⟩
def performM (x:Cl) (m:Mk):Mk:=if m.got+1=x.need then endM (moreM m) 3 else moreM m
def violM (m:Mk):Mk:=if m.paused=true then m else endM m 4
def doM (x:Cl) (m:Mk):Mk:=if x.kind=1 then performM x m else if x.kind=2 then violM m else endM m 3
def effM (k:K) (a:Int) (by_:Int) (i:Nat) (m:Mk):Mk:=if(clAt k i).act=a∧((clAt k i).kind=4∨m.bearer=by_) then doM (clAt k i) m else m
def bearM (k:K) (x:Act) (i:Nat) (m:Mk):Mk:=if(clAt k i).kind≠4∧(clAt k i).role=x.give then⟨m.status,m.left,m.got,x.to,m.paused⟩ else m
def doerW (k:K) (hold:Nat→Int) (a:Nat):Int:=if(acAt k a).role=-1 then -1 else hold (acAt k a).role.toNat
def shiftW (k:K) (w:Wk) (a:Nat):Wk:={w with hold:=fun j=>if j=(acAt k a).give.toNat then(acAt k a).to else w.hold j,used:=fun j=>if j=a then true else w.used j}
def giveW (k:K) (w:Wk) (a:Nat):Wk:=if(acAt k a).kind≠3 then shiftW k w a else mapRun (bearM k (acAt k a)) (shiftW k w a) k.clauses.length
def preA (k:K) (w:Wk) (a:Nat):Wk:=mapRun (effM k a (doerW k w.hold a)) (mapRun (pauseM k a) w k.clauses.length) k.clauses.length
def preG (k:K) (w:Wk) (a:Nat):Wk:=if(acAt k a).kind≠1 then giveW k (preA k w a) a else preA k w a
def actW' (k:K) (w:Wk) (a:Nat):Wk:=if(acAt k a).kind≠1∧w.used a=true then w else startW k (preG k w a)
def preT (k:K) (w:Wk):Wk:={mapRun (tickM k (offD k w.day)) w k.clauses.length with day:=w.day+1}
def tickW (k:K) (w:Wk):Wk:=startW k (preT k w)
def stepW (k:K) (w:Wk) (s:Int):Wk:=if s=-1 then tickW k w else actW' k w s.toNat
def runB (k:K) (x:Cl) (m:Mk):Bool:=
 if(x.waived||decide (m.left<1)||(m.paused&&x.pause==-1))=true then false
 else if(m.got !=0&&(x.kind !=1||decide (m.got<0)||decide (x.need≤m.got)))=true then false
 else if x.kind=4 then m.bearer==-1 else decide (0≤m.bearer)&&decide (m.bearer<k.parties)
def idleB (m:Mk):Bool:=m.status==0&&m.left==0&&m.got==0&&m.bearer==-1&&!m.paused
def endB (k:K) (m:Mk):Bool:=m.left==0&&decide (0≤m.got)&&decide (m.got≤9)&&decide (-1≤m.bearer)&&decide (m.bearer<k.parties)&&!m.paused
def markB (k:K) (i:Nat) (m:Mk):Bool:=
 if m.status=0 then !(clAt k i).waived&&idleB m
 else if m.status=1 then decide (m.left≤(clAt k i).after)&&runB k (clAt k i) m
 else if m.status=2 then(clAt k i).kind==1&&decide (m.left≤(clAt k i).grace)&&runB k (clAt k i) m
 else if m.status=3∨m.status=4∨m.status=5 then endB k m else false
structure WOk (k:K) (w:Wk):Prop where
 day:0≤w.day∧w.day≤k.days
 hold:∀i,i<k.holders.length→0≤w.hold i∧w.hold i<k.parties
 used:∀i,i<k.acts.length→w.used i=true→(acAt k i).kind≠1
 mark:∀i,i<k.clauses.length→markB k i (w.mark i)=true
 rdy:∀i,i<k.clauses.length→rdyB k w.mark i=false
structure SRel (k:K) (w w':Wk):Prop where
 day:w'.day=w.day
 hold:w'.hold=w.hold
 used:w'.used=w.used
 mark:∀j,w'.mark j=w.mark j∨(j<k.clauses.length∧(w.mark j).status=0∧(clAt k j).waived=false∧w'.mark j=liveM k w.hold j∧∀c∈(clAt k j).start,condHB w'.mark c=true)
theorem cond_mono {mk mk':Nat→Mk} (h:∀j,(mk' j).status=(mk j).status∨((mk j).status=0∧(mk' j).status=1)) {c:Cnd} (hc:condHB mk c=true):condHB mk' c=true:=by
 unfold condHB at hc ⊢
 have hj:=h c.clause.toNat
 generalize (mk c.clause.toNat).status=x at*
 generalize (mk' c.clause.toNat).status=y at*
 split
 ·rename_i h1
  rw[if_pos h1] at hc
  have hc:x≠0:=by simpa using hc
  have:y≠0:=by omega
  simpa using this
 ·rename_i h1
  rw[if_neg h1] at hc
  split
  ·rename_i h2
   rw[if_pos h2] at hc
   have hc:x=3:=by simpa using hc
   have:y=3:=by omega
   simpa using this
  ·rename_i h2
   rw[if_neg h2] at hc
   split
   ·rename_i h3
    rw[if_pos h3] at hc
    have hc:x=4:=by simpa using hc
    have:y=4:=by omega
    simpa using this
   ·rename_i h3
    rw[if_neg h3] at hc
    split
    ·rename_i h4
     rw[if_pos h4] at hc
     have hc:x=5:=by simpa using hc
     have:y=5:=by omega
     simpa using this
    ·rename_i h4
     rw[if_neg h4] at hc
     cases hc
theorem SRel.refl (k:K) (w:Wk):SRel k w w:=⟨rfl,rfl,rfl,fun _=>.inl rfl⟩
theorem SRel.stat {k:K} {w w':Wk} (h:SRel k w w') (j:Nat):(w'.mark j).status=(w.mark j).status∨((w.mark j).status=0∧(w'.mark j).status=1):=by
 rcases h.mark j with h1|⟨_,h1,_,h2,_⟩
 ·exact .inl (by rw[h1])
 ·exact .inr ⟨h1,by rw[h2];rfl⟩
theorem SRel.trans {k:K} {w w' w'':Wk} (h:SRel k w w') (g:SRel k w' w''):SRel k w w'':=by
 refine⟨g.day.trans h.day,g.hold.trans h.hold,g.used.trans h.used,fun j=>?_⟩
 rcases g.mark j with g1|⟨a1,a2,a3,a4,a5⟩
 ·rcases h.mark j with h1|⟨b1,b2,b3,b4,b5⟩
  ·exact .inl (g1.trans h1)
  ·exact .inr ⟨b1,b2,b3,g1.trans b4,fun c hc=>cond_mono g.stat (b5 c hc)⟩
 ·rcases h.mark j with h1|⟨b1,b2,b3,b4,b5⟩
  ·exact .inr ⟨a1,by rw[←h1];exact a2,a3,by rw[a4,h.hold],a5⟩
  ·rw[b4] at a2;simp[liveM] at a2
theorem rdyB_true {k:K} {mk:Nat→Mk} {i:Nat} (h:rdyB k mk i=true):(mk i).status=0∧(clAt k i).waived=false∧∀c∈(clAt k i).start,condHB mk c=true:=by
 unfold rdyB at h
 split at h
 ·cases h
 ·rename_i h1
  simp only[Bool.or_eq_true,bne_iff_ne,ne_eq,not_or,Bool.not_eq_true,Decidable.not_not] at h1
  exact⟨h1.1,h1.2,fun c hc=>List.all_eq_true.1 h c hc⟩
theorem SRel.one {k:K} {w:Wk} {i:Nat} (hi:i<k.clauses.length) (h:rdyB k w.mark i=true):SRel k w (w.upM i (liveM k w.hold i)):=by
 obtain⟨h1,h2,h3⟩:=rdyB_true h
 refine⟨rfl,rfl,rfl,fun j=>?_⟩
 by_cases hj:j=i
 ·subst hj
  refine .inr ⟨hi,h1,h2,by simp[Wk.upM],fun c hc=>cond_mono (fun j'=>?_) (h3 c hc)⟩
  by_cases hj':j'=j
  ·subst hj';exact .inr ⟨h1,by simp[Wk.upM,liveM]⟩
  ·exact .inl (by simp[Wk.upM,hj'])
 ·exact .inl (by simp[Wk.upM,hj])
theorem countP_le {p p':Nat→Bool} {n:Nat} (h:∀j,p' j=true→p j=true):(List.range n).countP p'≤(List.range n).countP p:=List.countP_mono_left fun x _ hx=>h x hx
theorem countP_lt {p p':Nat→Bool} {n i:Nat} (hi:i<n) (h1:p i=true) (h2:p' i=false) (h:∀j,p' j=true→p j=true):(List.range n).countP p'<(List.range n).countP p:=by
 induction n with
 |zero=>omega
 |succ n ih=>
  rw[List.range_succ,List.countP_append,List.countP_append]
  by_cases e:i=n
  ·subst e
   have:=countP_le (n:=i) h
   simp[h1,h2]
   omega
  ·have:=ih (by omega)
   have:[n].countP p'≤[n].countP p:=List.countP_mono_left fun x _ hx=>h x hx
   omega
theorem SRel.idle {k:K} {w w':Wk} (h:SRel k w w'):idleN k w'.mark≤idleN k w.mark:=countP_le fun j hj=>by
 have:=h.stat j
 simp only[beq_iff_eq] at hj ⊢
 omega
theorem pass_rel {k:K} {w:Wk}:∀n,n≤k.clauses.length→SRel k w (passTo k w n).1
 |0,_=>SRel.refl k w
 |n+1,hn=>by
  have ih:=pass_rel (k:=k) (w:=w) n (by omega)
  show SRel k w (if _ then _ else _:Wk×Bool).1
  split
  ·rename_i h
   exact ih.trans (SRel.one (by omega) h)
  ·exact ih
theorem pass_none {k:K} {w:Wk}:∀n,(passTo k w n).2=false→passTo k w n=(w,false)∧∀j,j<n→rdyB k w.mark j=false
 |0,_=>⟨rfl,fun j hj=>absurd hj (Nat.not_lt_zero _)⟩
 |n+1,h=>by
  by_cases hr:rdyB k (passTo k w n).1.mark n=true
  ·rw[passTo,if_pos hr] at h;cases h
  ·rw[passTo,if_neg hr] at h ⊢
   obtain⟨h1,h2⟩:=pass_none n h
   refine⟨h1,fun j hj=>?_⟩
   by_cases hj':j=n
   ·subst hj';rw[h1] at hr;simpa using hr
   ·exact h2 j (by omega)
theorem pass_less {k:K} {w:Wk}:∀n,n≤k.clauses.length→(passTo k w n).2=true→idleN k (passTo k w n).1.mark<idleN k w.mark
 |0,_,h=>by cases h
 |n+1,hn,h=>by
  have hrel:=pass_rel (k:=k) (w:=w) n (by omega)
  by_cases hr:rdyB k (passTo k w n).1.mark n=true
  ·rw[passTo,if_pos hr]
   have h1:=(rdyB_true hr).1
   refine Nat.lt_of_lt_of_le ?_ hrel.idle
   refine countP_lt (i:=n) (by omega) (by simpa using h1) (by simp[Wk.upM,liveM]) fun j hj=>?_
   by_cases hj':j=n
   ·subst hj';simpa using h1
   ·simpa[Wk.upM,hj'] using hj
  ·rw[passTo,if_neg hr] at h ⊢
   exact pass_less n (by omega) h
theorem startN_spec {k:K}:∀(f:Nat) (w:Wk),idleN k w.mark<f→SRel k w (startN k f w)∧∀i,i<k.clauses.length→rdyB k (startN k f w).mark i=false
 |0,_,h=>by omega
 |f+1,w,h=>by
  by_cases h2:(passTo k w k.clauses.length).2=true
  ·rw[startN,if_pos h2]
   have h3:=pass_less k.clauses.length (Nat.le_refl _) h2
   obtain⟨a,b⟩:=startN_spec (k:=k) f (passTo k w k.clauses.length).1 (by omega)
   exact⟨(pass_rel _ (Nat.le_refl _)).trans a,b⟩
  ·rw[startN,if_neg h2]
   exact⟨SRel.refl k w,(pass_none k.clauses.length (by simpa using h2)).2⟩
theorem startW_spec (k:K) (w:Wk):SRel k w (startW k w)∧∀i,i<k.clauses.length→rdyB k (startW k w).mark i=false:=startN_spec _ w (Nat.lt_succ_self _)
theorem mapRun_zero (f:Nat→Mk→Mk) (w:Wk):mapRun f w 0=w:=by
 unfold mapRun
 simp
theorem mapRun_succ (f:Nat→Mk→Mk) (w:Wk) (n:Nat):mapRun f w (n+1)=if runsM (w.mark n)=true then(mapRun f w n).upM n (f n (w.mark n)) else mapRun f w n:=by
 unfold mapRun Wk.upM
 split
 ·rename_i h
  congr 1
  funext j
  by_cases hj:j=n
  ·subst hj;simp[h]
  ·have:(j<n+1∧runsM (w.mark j)=true)↔(j<n∧runsM (w.mark j)=true):=by constructor<;>(rintro⟨a,b⟩;exact⟨by omega,b⟩)
   simp only[if_neg hj,this]
 ·rename_i h
  congr 1
  funext j
  have:(j<n+1∧runsM (w.mark j)=true)↔(j<n∧runsM (w.mark j)=true):=by
   constructor
   ·rintro⟨a,b⟩
    refine⟨?_,b⟩
    by_cases hj:j=n
    ·subst hj;exact absurd b h
    ·omega
   ·rintro⟨a,b⟩;exact⟨by omega,b⟩
  simp only[this]
theorem mapRun_mk {f:Nat→Mk→Mk} {w:Wk} {n i:Nat} (hi:i<n):(mapRun f w n).mark i=if runsM (w.mark i)=true then f i (w.mark i) else w.mark i:=by simp[mapRun,hi]
theorem mapRun_ge {f:Nat→Mk→Mk} {w:Wk} {n i:Nat} (hi:¬i<n):(mapRun f w n).mark i=w.mark i:=by simp[mapRun,hi]
end
end Go.Proofs.YtgpkkllbejgmlaaGreatDoor
