import Derived.Test.YtgpkkllbejgmlaaGreatDoorZz14
import Derived.Test.YtgpkkllbejgmlaaGreatDoorZz29
import Derived.Test.YtgpkkllbejgmlaaGreatDoorZz21
set_option linter.unusedSimpArgs false
set_option linter.unusedVariables false
set_option maxRecDepth 10000
namespace Go.Proofs.YtgpkkllbejgmlaaGreatDoor
section
open Go.Eng Go.RowKit Go.Lib
def pzC (cl:List Nat) (c:Cnd):Cnd:=⟨(placeN cl c.clause.toNat:Nat),c.is⟩
def ptSt (cl:List Nat) (l:List Cnd) (s q:Nat):Cnd:=if q<s then pzC cl (l.getD q default) else l.getD q default
theorem ptSt_all (cl:List Nat) (l:List Cnd) (q:Nat):ptSt cl l l.length q=(l.map (pzC cl)).getD q default:=by
 unfold ptSt
 by_cases h:q<l.length
 ·rw[if_pos h,List.getD_eq_getElem?_getD,List.getElem?_eq_getElem h,List.getD_eq_getElem?_getD,List.getElem?_map,List.getElem?_eq_getElem h]
  rfl
 ·rw[if_neg h,List.getD_eq_getElem?_getD,List.getElem?_eq_none (by omega),List.getD_eq_getElem?_getD,List.getElem?_eq_none (by simp;omega)]
noncomputable def partRaw (k:K) (cl:List Nat):AV:=.tup [.agg [.c (.int .i64 k.parties),intsV k.holders,unitsV k.units,actsV k.acts,.rs 16 cl.length (fun j=>bif Nat.blt j cl.length then clC (partCl cl (clAt k (cl.getD j default))) else List.map AV.c ty61.zero),.c (.int .i64 k.days),intsV k.off],.c (.int .i64 0)]
theorem part_raw (k:K) (hF:KFacts k) (hv:(kValid k).1=0) (hu:k.units.length≤1000000) (ho:k.off.length≤1000000) (cl:List Nat) (hp:PartOk k cl) (hcl:cl.length≤400):Does Tryz.prog 82 [kV k,natsV cl] (partRaw k cl):=by
 have hkv:=kValid_ok k hF.w
 rw[hv] at hkv
 have hnc:=hF.nc
 have hna:=hF.na
 have hnh:=hF.nh
 have c1:=clnA_ints k.holders (by omega)
 have c2:=clnP_units k.units hu
 have c3:=clnP_acts k.acts (by omega)
 have c4:=clnA_ints k.off ho
 have hin:∀i,i<cl.length→cl.getD i default<k.clauses.length:=fun i hi=>hp.lt _ (by rw[List.getD_eq_getElem?_getD,List.getElem?_eq_getElem hi];exact List.getElem_mem hi)
 have hasc:∀i j,i<j→j<cl.length→cl.getD i default<cl.getD j default:=fun i j hij hj=>by
  rw[List.getD_eq_getElem?_getD,List.getElem?_eq_getElem (show i<cl.length by omega),List.getD_eq_getElem?_getD,List.getElem?_eq_getElem hj]
  exact List.pairwise_iff_getElem.1 hp.asc i j (by omega) hj hij
 refine Does.mk (fun d=>Nat.beq d 64) TT_ok Tryz.func82 rfl (by kernel_rfl) Tryz.ntmps82 rfl rfl fun E hT hE hN hR=>?_
 have hm:=mixO hE
 refine XK.r ?_
 refine XL.callKA hE rfl rfl rfl rfl trivial rfl rfl (hkv) ?_
 refine XL.e ?_
 refine XK.c ?_ ?_<;>intro h1
 ·cases h1
 refine XK.w ?_
 refine XK.loop (ι:=Nat) (fun i=>ST.of [(1,natsV cl),(2,.ptr 2 0),(4,.ptr 4 0),(8,.c (.int .i64 (if i=0 then -1 else(cl.getD (i-1) default:Nat)))),(26,natsV cl),(27,.c (.int .i64 cl.length)),(28,.c (.int .i64 i))] [(2,.cells 27 (kC k)),(4,.cells 27 [.c (.int .i64 0),.c (.slice none 0 0),.c (.slice none 0 0),.c (.slice none 0 0),.c (.slice none 0 0),.c (.int .i64 0),.c (.slice none 0 0)])] 1000 116 (fun d=>Nat.beq d 64))
  (fun i=>i≤cl.length) (fun i=>cl.length-i) 0 (Nat.zero_le _) (Weak.of hN rfl rfl rfl frI frI) fun i hi=>?_
 refine XK.c ?_ ?_<;>intro hlt<;>try simp at hlt
 ·have hlt:i<cl.length:=by omega
  have fx:cl.getD (i:Int).toNat default=cl.getD i default:=rfl
  have hi1:=hin i hlt
  have hi2:i≠0→cl.getD (i-1) default<cl.getD i default:=fun h=>hasc (i-1) i (by omega) hlt
  have hlast:(if i+1=0 then(-1:Int) else(cl.getD (i+1-1) default:Nat))=(cl.getD i default:Nat):=by rw[if_neg (by omega),Nat.add_sub_cancel]
  refine XK.w ?_
  rw[fx]
  refine XK.c ?_ ?_<;>intro h2
  ·exfalso
   by_cases e:i=0
   ·subst e
    simp at h2 hi1
    omega
   ·have:=hi2 e
    rw[if_neg e] at h2
    simp at h2 hi1 this
    omega
  ·refine XK.w ?_
   refine XK.inv ⟨i+1,hlt,?_,by omega⟩
   rw[hlast]
   exact(Weak.of hN rfl rfl rfl frI frI)
 have hie:i=cl.length:=by omega
 subst hie
 refine XK.w ?_
 refine XK.r ?_
 refine XL.callKA hE rfl rfl rfl rfl trivial rfl rfl (c1) ?_
 refine XL.e ?_
 refine XK.r ?_
 refine XL.callKA hE rfl rfl rfl rfl trivial rfl rfl (c2) ?_
 refine XL.e ?_
 refine XK.r ?_
 refine XL.callKA hE rfl rfl rfl rfl trivial rfl rfl (c3) ?_
 refine XL.e ?_
 refine XK.r ?_
 refine XL.callKA hE rfl rfl rfl rfl trivial rfl rfl (c4) ?_
 refine XL.e ?_
 refine XK.loop (ι:=Nat) (fun n=>ST.of [(1,natsV cl),(2,.ptr 2 0),(4,.ptr 4 0),(11,.ptr 1127 0),(66,natsV cl),(67,.c (.int .i64 cl.length)),(68,.c (.int .i64 n))] [(2,.cells 27 (kC k)),(4,.cells 27 [.c (.int .i64 0),.c (.slice none 0 0),.c (.slice none 0 0),.c (.slice none 0 0),.c (.slice none 0 0),.c (.int .i64 0),.c (.slice none 0 0)]),(1127,.cells 27 [.c (.int .i64 k.parties),intsV k.holders,unitsV k.units,actsV k.acts,.vec 1760 0,.c (.int .i64 k.days),intsV k.off]),(1760,.vec 61 16 0 cl.length (fun j=>bif Nat.blt j n then clC (partCl cl (clAt k (cl.getD j default))) else List.map AV.c ty61.zero))] 3000 116 (fun d=>Nat.beq d 64))
  (fun n=>n≤cl.length) (fun n=>cl.length-n) 0 (Nat.zero_le _) (Weak.of hN rfl rfl rfl frI frI) fun n hn=>?_
 refine XK.c ?_ ?_<;>intro hlt2<;>try simp at hlt2
 ·have hlt2:n<cl.length:=by omega
  have fx:cl.getD (n:Int).toNat default=cl.getD n default:=rfl
  have hi1:=hin n hlt2
  have himem:cl.getD n default∈cl:=by rw[List.getD_eq_getElem?_getD,List.getElem?_eq_getElem hlt2];exact List.getElem_mem hlt2
  have hlk:=hp.link _ himem
  have hst8:=(hF.clB hi1).2.2.2.1
  have hnew:∀j,j<cl.length→(bif Nat.blt j (n+1) then clC (partCl cl (clAt k (cl.getD j default))) else List.map AV.c ty61.zero)=setRowF (fun j=>bif Nat.blt j n then clC (partCl cl (clAt k (cl.getD j default))) else List.map AV.c ty61.zero) (n:Int).toNat 0 (clC (partCl cl (clAt k (cl.getD n default)))) j:=fun j hj=>by
   rw[show(n:Int).toNat=n from rfl]
   unfold setRowF
   by_cases e:j=n
   ·subst e
    rw[show Nat.beq j j=true by simp,cond_true,blt_yes (Nat.lt_succ_self j),cond_true]
    show _=setL (bif Nat.blt j j then clC (partCl cl (clAt k (cl.getD j default))) else List.map AV.c ty61.zero) 0 _
    rw[blt_no (Nat.le_refl j),cond_false]
    rfl
   ·rw[beq_false e,cond_false]
    show _=(bif Nat.blt j n then clC (partCl cl (clAt k (cl.getD j default))) else List.map AV.c ty61.zero)
    by_cases e2:j<n
    ·rw[blt_yes e2,blt_yes (by omega)]
    ·rw[blt_no (by omega),blt_no (by omega)]
  refine XK.w ?_
  rw[fx]
  generalize hcn:cl.getD n default=i at*
  have fc:k.clauses.getD (i:Int).toNat default=clAt k i:=rfl
  have d1:=clnP_cnds (clAt k i).start (by omega)
  have d2:=fun h0=>clnP_cndsM (clAt k i).start h0 (by omega)
  refine XK.w ?_
  try rw[fc]
  generalize clAt k i=c at*
  by_cases h0:c.start.length=0
  ·refine XK.r ?_
   refine XL.callKA hE rfl rfl rfl rfl trivial rfl rfl (d1) ?_
   refine XL.e ?_
   have hpc:partCl cl c=c:=by
    have:c.start=[]:=List.length_eq_zero_iff.1 h0
    unfold partCl
    rw[this]
    cases c
    simp at this
    simp[this]
   rw[hpc] at hnew
   refine XK.loop (ι:=Nat) (fun s=>ST.of [(1,natsV cl),(2,.ptr 2 0),(4,.ptr 4 0),(11,.ptr 1127 0),(66,natsV cl),(67,.c (.int .i64 cl.length)),(68,.c (.int .i64 n)),(12,.c (.int .i64 n)),(14,.ptr 3246 0),(83,cndsV c.start),(84,.c (.int .i64 c.start.length)),(85,.c (.int .i64 s))] [(2,.cells 27 (kC k)),(4,.cells 27 [.c (.int .i64 0),.c (.slice none 0 0),.c (.slice none 0 0),.c (.slice none 0 0),.c (.slice none 0 0),.c (.int .i64 0),.c (.slice none 0 0)]),(1127,.cells 27 [.c (.int .i64 k.parties),intsV k.holders,unitsV k.units,actsV k.acts,.vec 1760 0,.c (.int .i64 k.days),intsV k.off]),(1760,.vec 61 16 0 cl.length (fun j=>bif Nat.blt j n then clC (partCl cl (clAt k (cl.getD j default))) else List.map AV.c ty61.zero)),(3246,.cells 61 [.c (.int .i64 c.kind),.c (.int .i64 c.role),.c (.int .i64 c.act),.c (.int .i64 c.need),cndsV c.start,.c (.int .i64 c.after),.c (.int .i64 c.grace),.c (.bool c.business),.c (.bool c.final),.c (.int .i64 c.pause),.c (.int .i64 c.resume),.c (.int .i64 c.value.1),.c (.int .i64 c.value.2),.c (.int .i64 c.unit),.c (.int .i64 c.to),.c (.bool c.waived)])] 7000 116 (fun d=>Nat.beq d 64))
    (fun s=>s≤c.start.length) (fun s=>c.start.length-s) 0 (Nat.zero_le _) (Weak.of hN rfl rfl rfl frI frI) fun s hs=>?_
   refine XK.c ?_ ?_<;>intro hsl<;>try simp at hsl
   ·omega
   ·refine XK.w ?_
    refine XK.inv ⟨n+1,hlt2,?_,by omega⟩
    refine Weak.of hN rfl rfl rfl frV ⟨frI,frI,frI,⟨rfl,rfl,rfl⟩,rfl,fun j hj=>hnew j hj⟩
  ·refine XK.r ?_
   refine XL.callMA [800] hE rfl rfl rfl rfl trivial (d2 (by omega)) rfl rfl rfl rfl rfl ?_
   refine XL.e ?_
   refine XK.loop (ι:=Nat) (fun s=>ST.of [(1,natsV cl),(2,.ptr 2 0),(4,.ptr 4 0),(11,.ptr 1127 0),(66,natsV cl),(67,.c (.int .i64 cl.length)),(68,.c (.int .i64 n)),(12,.c (.int .i64 n)),(14,.ptr 3246 0),(83,.vec 800 0),(84,.c (.int .i64 c.start.length)),(85,.c (.int .i64 s))] [(2,.cells 27 (kC k)),(4,.cells 27 [.c (.int .i64 0),.c (.slice none 0 0),.c (.slice none 0 0),.c (.slice none 0 0),.c (.slice none 0 0),.c (.int .i64 0),.c (.slice none 0 0)]),(1127,.cells 27 [.c (.int .i64 k.parties),intsV k.holders,unitsV k.units,actsV k.acts,.vec 1760 0,.c (.int .i64 k.days),intsV k.off]),(1760,.vec 61 16 0 cl.length (fun j=>bif Nat.blt j n then clC (partCl cl (clAt k (cl.getD j default))) else List.map AV.c ty61.zero)),(3246,.cells 61 [.c (.int .i64 c.kind),.c (.int .i64 c.role),.c (.int .i64 c.act),.c (.int .i64 c.need),.vec 800 0,.c (.int .i64 c.after),.c (.int .i64 c.grace),.c (.bool c.business),.c (.bool c.final),.c (.int .i64 c.pause),.c (.int .i64 c.resume),.c (.int .i64 c.value.1),.c (.int .i64 c.value.2),.c (.int .i64 c.unit),.c (.int .i64 c.to),.c (.bool c.waived)]),(800,.vec 156 2 0 c.start.length (fun q=>cndC (ptSt cl c.start s q)))] 7000 116 (fun d=>Nat.beq d 64))
    (fun s=>s≤c.start.length) (fun s=>c.start.length-s) 0 (Nat.zero_le _) (Weak.of hN rfl rfl rfl frI ⟨frI,frI,frI,frI,frI,⟨rfl,rfl,rfl⟩,rfl,fun q hq=>by
     show cndC (ptSt cl c.start 0 q)=cndC (c.start.getD q default)
     unfold ptSt
     rw[if_neg (Nat.not_lt_zero _)]⟩) fun s hs=>?_
   refine XK.c ?_ ?_<;>intro hsl<;>try simp at hsl
   ·have hsl:s<c.start.length:=by omega
    have hcm:=hlk (c.start.getD s default) (by rw[List.getD_eq_getElem?_getD,List.getElem?_eq_getElem hsl];exact List.getElem_mem hsl)
    have fz:ptSt cl c.start s (s:Int).toNat=c.start.getD s default:=by
     rw[show(s:Int).toNat=s from rfl];unfold ptSt;rw[if_neg (Nat.lt_irrefl _)]
    obtain⟨y,hy⟩:∃y:Nat,(c.start.getD s default).clause=(y:Int):=⟨(c.start.getD s default).clause.toNat,by omega⟩
    have hym:y∈cl:=by have:=hcm.2;rw[hy] at this;exact this
    obtain⟨hp1,hp2⟩:=place_at hym
    have hbs:=bsN_ok cl y (placeN cl y) (by omega) hp1 (fun i hi=>by have:=hasc i (placeN cl y) hi hp1;have e:cl.getD (placeN cl y) default=y:=hp2;omega)
     (fun i hi1 hi2=>by
      have e:cl.getD (placeN cl y) default=y:=hp2
      by_cases e2:i=placeN cl y
      ·subst e2;omega
      ·have:=hasc (placeN cl y) i (by omega) hi2;omega) hp2
    have hpc:pzC cl (c.start.getD s default)=⟨(placeN cl y:Nat),(c.start.getD s default).is⟩:=by unfold pzC;rw[hy];rfl
    refine XK.w ?_
    refine XK.r ?_
    rw[fz,hy]
    refine XL.callKA hE rfl rfl rfl rfl trivial rfl rfl (hbs) ?_
    refine XL.e ?_
    refine XK.c ?_ ?_<;>intro h9
    ·cases h9
    refine XK.w ?_
    refine XK.inv ⟨s+1,hsl,?_,by omega⟩
    refine Weak.of hN rfl rfl rfl frV ⟨frI,frI,frI,frI,frI,⟨rfl,rfl,rfl⟩,rfl,fun q hq=>?_⟩
    show cndC (ptSt cl c.start (s+1) q)=setRowF (fun q=>cndC (ptSt cl c.start s q)) (s:Int).toNat 0 [.c (.int .i64 (placeN cl y))] q
    rw[show(s:Int).toNat=s from rfl]
    unfold setRowF
    by_cases e:q=s
    ·subst e
     rw[show Nat.beq q q=true by simp,cond_true]
     show cndC (ptSt cl c.start (q+1) q)=setL (cndC (ptSt cl c.start q q)) 0 _
     unfold ptSt
     rw[if_pos (by omega),if_neg (by omega),hpc]
     rfl
    ·rw[beq_false e,cond_false]
     show cndC (ptSt cl c.start (s+1) q)=cndC (ptSt cl c.start s q)
     unfold ptSt
     by_cases e2:q<s
     ·rw[if_pos e2,if_pos (by omega)]
     ·rw[if_neg e2,if_neg (by omega)]
   ·have hse:s=c.start.length:=by omega
    subst hse
    have hfe:(fun q=>cndC (ptSt cl c.start c.start.length q))=fun q=>cndC ((c.start.map (pzC cl)).getD q default):=funext fun q=>by rw[ptSt_all]
    rw[hfe]
    refine XK.weak (Weak.trans (Weak.frozen (k:=800) hN rfl rfl) (Weak.of (L:=[(1,natsV cl),(2,.ptr 2 0),(4,.ptr 4 0),(11,.ptr 1127 0),(66,natsV cl),(67,.c (.int .i64 cl.length)),(68,.c (.int .i64 n)),(12,.c (.int .i64 n)),(14,.ptr 3246 0)]) (O:=[(2,.cells 27 (kC k)),(4,.cells 27 [.c (.int .i64 0),.c (.slice none 0 0),.c (.slice none 0 0),.c (.slice none 0 0),.c (.slice none 0 0),.c (.int .i64 0),.c (.slice none 0 0)]),(1127,.cells 27 [.c (.int .i64 k.parties),intsV k.holders,unitsV k.units,actsV k.acts,.vec 1760 0,.c (.int .i64 k.days),intsV k.off]),(1760,.vec 61 16 0 cl.length (fun j=>bif Nat.blt j n then clC (partCl cl (clAt k (cl.getD j default))) else List.map AV.c ty61.zero)),(3246,.cells 61 [.c (.int .i64 c.kind),.c (.int .i64 c.role),.c (.int .i64 c.act),.c (.int .i64 c.need),.rs 2 c.start.length (fun q=>cndC ((c.start.map (pzC cl)).getD q default)),.c (.int .i64 c.after),.c (.int .i64 c.grace),.c (.bool c.business),.c (.bool c.final),.c (.int .i64 c.pause),.c (.int .i64 c.resume),.c (.int .i64 c.value.1),.c (.int .i64 c.value.2),.c (.int .i64 c.unit),.c (.int .i64 c.to),.c (.bool c.waived)])]) (nx:=9000) (nt:=116) (md:=fun d=>Nat.beq d 64) hN rfl rfl rfl frI frI)) ?_
    have hle:c.start.length=(c.start.map (pzC cl)).length:=by simp
    rw[hle]
    refine XK.w ?_
    refine XK.inv ⟨n+1,hlt2,?_,by omega⟩
    exact Weak.of hN rfl rfl rfl frV ⟨frI,frI,frI,⟨rfl,rfl,rfl⟩,rfl,fun j hj=>hnew j hj⟩
 ·have hne:n=cl.length:=by omega
  subst hne
  refine XK.weak (Weak.frozen (k:=1760) hN rfl rfl) ?_
  refine XK.w ?_
  refine XK.q ?_
  rfl
theorem part_ok (k:K) (hF:KFacts k) (hv:(kValid k).1=0) (hu:k.units.length≤1000000) (ho:k.off.length≤1000000) (cl:List Nat) (hp:PartOk k cl) (hcl:cl.length≤400):Does Tryz.prog 82 [kV k,natsV cl] (.tup [kV (partK k cl),.c (.int .i64 0)]):=by
 have rs {sz n m:Nat} {f g:Nat→List AV} (h:m=n) (h2:∀i,i<n→f i=g i):AvS (.rs sz n f) (.rs sz m g):=by
  subst h
  exact AvS.rs fun i hi=>by rw[h2 i hi];exact AvSL.refl _
 refine(part_raw k hF hv hu ho cl hp hcl).weaken (AvS.tup ⟨AvS.agg ⟨AvS.refl _,AvS.refl _,AvS.refl _,AvS.refl _,rs ?_ fun j hj=>?_,AvS.refl _,AvS.refl _,trivial⟩,AvS.refl _,trivial⟩)
 ·show(cl.map _).length=cl.length
  simp
 ·show(bif Nat.blt j cl.length then clC (partCl cl (clAt k (cl.getD j default))) else List.map AV.c ty61.zero)=clC ((partK k cl).clauses.getD j default)
  rw[blt_yes hj,cond_true]
  exact congrArg clC (partK_at hj).symm
end
section
open Go.Eng Go.RowKit Go.Lib
structure Ga where
 n:Nat
 g:Nat→List Nat
 pl:Int→Option Nat
def gaT (f:Nat→Nat):Nat→Ga
 |0=>⟨0,fun _=>[],fun _=>none⟩
 |i+1=>if f i=i then⟨(gaT f i).n+1,addN (gaT f i).g (gaT f i).n i,fun b=>if b=(i:Int) then some (gaT f i).n else(gaT f i).pl b⟩ else⟨(gaT f i).n,addN (gaT f i).g (((gaT f i).pl (f i:Nat)).getD 0) i,(gaT f i).pl⟩
def rtsL (f:Nat→Nat) (i:Nat):List Nat:=(List.range i).filter fun r=>f r==r
structure GaOk (f:Nat→Nat) (i:Nat) (s:Ga):Prop where
 n:s.n=(rtsL f i).length
 out:∀t,s.n≤t→s.g t=[]
 place:∀r,r<i→f r=r→∃t,s.pl (r:Nat)=some t∧t<s.n∧(rtsL f i).getD t 0=r
 row:∀t,t<s.n→s.g t=(List.range i).filter (fun x=>f x==(rtsL f i).getD t 0)
theorem rtsL_succ (f:Nat→Nat) (i:Nat):rtsL f (i+1)=rtsL f i++if f i=i then[i] else[]:=by
 unfold rtsL
 rw[List.range_succ,List.filter_append]
 by_cases h:f i=i
 ·rw[if_pos h];simp[h]
 ·rw[if_neg h];simp[h]
theorem rtsL_lt {f:Nat→Nat} {i t:Nat} (h:t<(rtsL f i).length):(rtsL f i).getD t 0<i:=by
 rw[List.getD_eq_getElem?_getD,List.getElem?_eq_getElem h]
 have:=List.getElem_mem h
 exact List.mem_range.1 (List.mem_filter.1 this).1
theorem ga_ok {f:Nat→Nat} (hf:RtOk f):∀i,GaOk f i (gaT f i)
 |0=>⟨rfl,fun _ _=>rfl,fun r h=>absurd h (Nat.not_lt_zero _),fun t h=>absurd h (Nat.not_lt_zero _)⟩
 |i+1=>by
  obtain⟨h1,h2,h3,h4⟩:=ga_ok hf i
  have hR:=rtsL_succ f i
  rw[gaT]
  by_cases e:f i=i
  ·rw[if_pos e] at hR ⊢
   have hget:∀t,t<(gaT f i).n→(rtsL f (i+1)).getD t 0=(rtsL f i).getD t 0:=fun t ht=>by
    rw[hR,List.getD_eq_getElem?_getD,List.getElem?_append_left (by omega),←List.getD_eq_getElem?_getD]
   have hlast:(rtsL f (i+1)).getD (gaT f i).n 0=i:=by
    rw[hR,List.getD_eq_getElem?_getD,List.getElem?_append_right (by omega),h1,Nat.sub_self];rfl
   refine⟨by rw[hR,List.length_append,←h1];rfl,fun t ht=>?_,fun r hr hrr=>?_,fun t ht=>?_⟩
   ·have ht:(gaT f i).n+1≤t:=ht
    show addN _ _ _ t=[]
    unfold addN
    rw[if_neg (by omega)]
    exact h2 t (by omega)
   ·by_cases er:r=i
    ·subst er
     exact⟨(gaT f r).n,if_pos rfl,Nat.lt_succ_self _,hlast⟩
    ·obtain⟨t,a,b,c⟩:=h3 r (by omega) hrr
     refine⟨t,?_,Nat.lt_succ_of_lt b,by rw[hget t b];exact c⟩
     show(if(r:Int)=(i:Int) then _ else _)=_
     rw[if_neg (by omega)];exact a
   ·have ht:t<(gaT f i).n+1:=ht
    show addN _ _ _ t=_
    unfold addN
    rw[List.range_succ,List.filter_append]
    by_cases et:t=(gaT f i).n
    ·subst et
     rw[if_pos rfl,hlast,h2 _ (Nat.le_refl _)]
     have:(List.range i).filter (fun x=>f x==i)=[]:=by
      rw[List.filter_eq_nil_iff]
      intro x hx
      have:=hf.le x
      have:=List.mem_range.1 hx
      simp
      omega
     rw[this]
     simp[e]
    ·rw[if_neg et,hget t (by omega),h4 t (by omega)]
     have hlt:=rtsL_lt (f:=f) (i:=i) (t:=t) (by omega)
     have:([i].filter fun x=>f x==(rtsL f i).getD t 0)=[]:=by
      rw[List.filter_eq_nil_iff]
      intro x hx
      rw[List.mem_singleton.1 hx,e]
      simp only[beq_iff_eq]
      omega
     rw[this,List.append_nil]
  ·rw[if_neg e,List.append_nil] at hR
   rw[if_neg e]
   have hr1:f i<i:=by have:=hf.le i;omega
   obtain⟨t0,a,b,c⟩:=h3 (f i) hr1 (hf.idem i)
   rw[a]
   have hnd:(rtsL f i).Nodup:=List.nodup_range.filter _
   refine⟨by rw[hR];exact h1,fun t ht=>?_,fun r hr hrr=>?_,fun t ht=>?_⟩
   ·have ht:(gaT f i).n≤t:=ht
    show addN _ t0 _ t=[]
    unfold addN
    rw[if_neg (by omega)]
    exact h2 t ht
   ·have:r≠i:=fun q=>e (q▸hrr)
    rw[hR]
    exact h3 r (by omega) hrr
   ·have ht:t<(gaT f i).n:=ht
    rw[hR]
    show addN _ t0 _ t=_
    unfold addN
    rw[List.range_succ,List.filter_append,h4 t ht]
    by_cases et:t=t0
    ·subst et
     rw[if_pos rfl,c]
     simp
    ·rw[if_neg et]
     have:([i].filter fun x=>f x==(rtsL f i).getD t 0)=[]:=by
      rw[List.filter_eq_nil_iff]
      intro x hx
      rw[List.mem_singleton.1 hx]
      simp only[beq_iff_eq]
      intro q
      rw[←c,List.getD_eq_getElem?_getD,List.getElem?_eq_getElem (show t0<(rtsL f i).length by omega),List.getD_eq_getElem?_getD,List.getElem?_eq_getElem (show t<(rtsL f i).length by omega)] at q
      have hpw:=List.pairwise_iff_getElem.1 hnd
      rcases Nat.lt_or_ge t t0 with hlt|hge
      ·exact hpw t t0 (by omega) (by omega) hlt q.symm
      ·exact hpw t0 t (by omega) (by omega) (by omega) q
     rw[this,List.append_nil]
theorem ga_parts {f:Nat→Nat} (hf:RtOk f) (N:Nat):(gaT f N).n=(partsOf N f).length∧∀t,t<(gaT f N).n→(gaT f N).g t=(partsOf N f).getD t default:=by
 obtain⟨h1,-,-,h4⟩:=ga_ok hf N
 have e:partsOf N f=(rtsL f N).map fun r=>(List.range N).filter fun x=>f x==r:=rfl
 refine⟨by rw[e,List.length_map];exact h1,fun t ht=>?_⟩
 have hlt:t<(rtsL f N).length:=by omega
 rw[h4 t ht,e,List.getD_eq_getElem?_getD,List.getElem?_eq_getElem hlt,List.getD_eq_getElem?_getD,List.getElem?_map,List.getElem?_eq_getElem hlt]
 rfl
theorem ga_len {f:Nat→Nat}:∀i t,((gaT f i).g t).length≤i
 |0,_=>Nat.le_refl _
 |i+1,t=>by
  have ih:=ga_len (f:=f) i t
  rw[gaT]
  split
  ·show(addN _ _ _ t).length≤_
   unfold addN
   split
   ·rw[List.length_append,List.length_singleton];omega
   ·omega
  ·show(addN _ _ _ t).length≤_
   unfold addN
   split
   ·rw[List.length_append,List.length_singleton];omega
   ·omega
theorem ga_n {f:Nat→Nat} (hf:RtOk f) (i:Nat):(gaT f i).n≤i:=by
 rw[(ga_ok hf i).n]
 have:=List.length_filter_le (fun r=>f r==r) (List.range i)
 rwa[List.length_range] at this
end
section
open Go.Eng Go.RowKit Go.Lib
def g0:Nat→List Nat:=fun _=>[]
theorem abG_rp {N:Nat} {ab f:Nat→Nat} (h:Rp N ab f) (hN:N≤400):∀i,i≤N→Rp N (abG ab i) f
 |0,_=>h
 |i+1,hi=>((abG_rp h hN i (by omega)).rc 400 i (by omega) (by omega)).2
theorem gather_ok (N:Nat) (ab f:Nat→Nat) (h:Rp N ab f) (hNm:N≤400):
  DoesM Tryz.prog 122 [.c (.int .i64 N),.fn (.func 117) [] [.vptr 0 0 1 0 0,.ptr 1 0]] (rtO ab) (nssV (partsOf N f)) (rtO (abG ab N)):=by
 have hrp:=abG_rp h hNm
 have hro:∀i,i<N→DoesM Tryz.prog 117 [.c (.int .i64 i),.vptr 0 0 1 0 0,.ptr 1 0] (rtO (abG ab i)) (.c (.int .i64 (f i:Nat))) (rtO (abG ab (i+1))):=fun i hi=>by
  have h1:=hrp i (by omega)
  have h2:=root_ok (abG ab i) h1.le 400 i (by omega) (by omega)
  rw[(h1.rc 400 i hi (by omega)).1] at h2
  exact h2
 have hgo:=ga_ok h.rt
 have hgl:=fun i t=>ga_len (f:=f) i t
 have hgn:=fun i=>ga_n h.rt i
 obtain⟨hpn,hpg⟩:=ga_parts h.rt N
 refine DoesM.mk (fun _=>false) 100 TT_ok Tryz.func122 rfl (by kernel_rfl) Tryz.ntmps122 rfl rfl rfl fun E hT hE hN hR=>?_
 have hm:=mixO hE
 refine XK.w ?_
 refine XK.loop (ι:=Option (Nat×Nat×Nat)) (fun z=>match z with
   |none=>ST.of [(1,.fn (.func 117) [] [.vptr 0 0 1 0 0,.ptr 1 0]),(5,.c (.slice none 0 0)),(6,.mp 195),(10,.c (.int .i64 N)),(11,.c (.int .i64 (0:Nat)))] [(0,abO ab),(1,.cells 93 [.fn (.func 117) [] [.vptr 0 0 1 0 0,.ptr 1 0]]),(195,usO (fun _=>none))] 1000 43 (fun _=>false)
   |some (i,b,cap)=>⟨mkFr [(5,rowsH b (gaT f i).n cap),(1,.fn (.func 117) [] [.vptr 0 0 1 0 0,.ptr 1 0]),(6,.mp 195),(10,.c (.int .i64 N)),(11,.c (.int .i64 i))],obF 1000000 3 1 (famN (gaT f i).g) ((700,rowsC 22 b (gaT f i).n cap (famG 1000000))::[(0,abO (abG ab i)),(1,.cells 93 [.fn (.func 117) [] [.vptr 0 0 1 0 0,.ptr 1 0]]),(195,usO (gaT f i).pl)]),1000,43,(fun _=>false)⟩)
  (fun z=>match z with
   |none=>True
   |some (i,b,cap)=>0<i∧i≤N∧(gaT f i).n≤cap∧cap≤maxLen)
  (fun z=>match z with
   |none=>N+1
   |some (i,b,cap)=>N-i) none trivial (Weak.of hN rfl rfl rfl frI ⟨frI,frI,rfl,rfl,fun v hv=>⟨by cases v<;>rfl,by cases v<;>exact AvIs.refl _⟩⟩) fun z hz=>?_
 rcases z with _|⟨i,b,cap⟩
 ·show XK E _ _ (ST.of _ _ _ _ _)
  refine XK.c ?_ ?_<;>intro hlt<;>try simp at hlt
  ·have hlt:0<N:=by omega
   have f0:f 0=0:=by have:=h.rt.le 0;omega
   have hr0:=hro 0 hlt
   rw[f0] at hr0
   have hg1:gaT f 1=⟨1,addN g0 0 0,fun b=>if b=(0:Int) then some 0 else none⟩:=by
    show(if f 0=0 then _ else _)=_
    rw[if_pos f0]
    rfl
   refine XK.w ?_
   refine XK.r ?_
   refine XL.callMA [0,1] hE rfl rfl rfl rfl trivial (hr0) rfl rfl rfl rfl rfl ?_
   refine XL.e ?_
   refine XK.c ?_ ?_<;>intro h2
   rotate_left
   ·cases h2
   refine XK.weak (Weak.trans (Weak.ghost (j:=5) (k:=700) (e:=22) (sz:=1) (f:=fun _=>[]) rfl rfl) (Weak.of (L:=[(5,.vec 700 0),(1,.fn (.func 117) [] [.vptr 0 0 1 0 0,.ptr 1 0]),(6,.mp 195),(10,.c (.int .i64 N)),(7,.c (.int .i64 (0:Nat))),(8,.c (.int .i64 (0:Nat))),(11,.c (.int .i64 (0:Nat)))]) (O:=[(0,abO (abG ab 1)),(1,.cells 93 [.fn (.func 117) [] [.vptr 0 0 1 0 0,.ptr 1 0]]),(195,usO (fun _=>none)),(700,.vec 22 1 0 0 (fun _=>[]))]) (nx:=3000) (nt:=43) (md:=fun _=>false) hN rfl rfl rfl frI frI)) ?_
   refine XK.w ?_
   refine XK.weak (Weak.trans (Weak.stamp (k:=700) (t:=0) hN rfl rfl) (Weak.of (L:=[(5,.vec 700 0),(1,.fn (.func 117) [] [.vptr 0 0 1 0 0,.ptr 1 0]),(6,.mp 195),(10,.c (.int .i64 N)),(7,.c (.int .i64 (0:Nat))),(8,.c (.int .i64 (0:Nat))),(11,.c (.int .i64 (0:Nat)))]) (O:=[(700,.vec 22 1 0 1 (fun _=>[.c (.slice none 0 0)])),(0,abO (abG ab 1)),(1,.cells 93 [.fn (.func 117) [] [.vptr 0 0 1 0 0,.ptr 1 0]]),(195,usO (fun b=>if b=((0:Nat):Int) then some 0 else none))]) (nx:=4000) (nt:=43) (md:=fun _=>false) hN rfl rfl rfl frI ⟨⟨⟨rfl,rfl,rfl⟩,rfl,fun q hq=>by cases Nat.lt_one_iff.1 hq;rfl⟩,frI,frI,rfl,rfl,fun v hv=>us_put (fun _=>none) ((0:Nat):Int) 0 v hv⟩)) ?_
   refine XK.rowsIn (B:=1000000) (u2:=3) (sz:=1) (famN g0) (fun i=>rfl) hN rfl rfl rfl Nat.one_pos (fun i hi=>rfl) fun b cap hcap hcmx=>?_
   have hpl:(uV (fun b=>if b=((0:Nat):Int) then some 0 else none) (.int .i64 ((0:Nat):Int))).getD 0=0:=rfl
   have htn:(0:Nat)<1:=Nat.one_pos
   have hgb':(famN g0 0).1+1≤300000:=by show 0+1≤300000;omega
   refine XK.weak (Weak.rowsOpen 701 0 hN rfl rfl rfl rfl rfl rfl rfl) ?_
   refine XK.drawn hm ?_
   refine XD.mv (y:=rowsH b 1 cap) rfl rfl rfl rfl rfl ?_
   refine XD.goN 2 hT rfl rfl rfl rfl rfl rfl ?_ ?_
   ·exact trivial
   refine XD.opE hT (y:=.c (.int .i64 ((0:Nat):Int))) rfl rfl rfl rfl trivial rfl (congrArg (fun q:Nat=>AV.c (.int .i64 (q:Int))) hpl) ?_
   refine XD.mv (y:=rowsH b 1 cap) rfl rfl rfl rfl rfl ?_
   refine XD.goN 2 hT rfl rfl rfl rfl rfl rfl ?_ ?_
   ·exact trivial
   refine XD.opE hT (y:=.c (.int .i64 ((0:Nat):Int))) rfl rfl rfl rfl trivial rfl (congrArg (fun q:Nat=>AV.c (.int .i64 (q:Int))) hpl) ?_
   refine XD.loc (Local.rowsAt (b:=b) (n:=1) (cap:=cap) hT rfl rfl rfl rfl rfl rfl rfl rfl rfl ⟨by omega,by omega⟩) ?_
   refine XD.loc (Local.rowsLoad (k:=700) (b:=b) (j:=0) (n:=1) (cap:=cap) (g:=famQ 1000000 701 0) (y:=.vec 701 0) (e:=22) hT rfl rfl rfl rfl rfl rfl rfl ⟨htn,hcap⟩ (by simp[famQ])) ?_
   refine XD.goN 3 hT rfl rfl rfl rfl rfl rfl ?_ ?_
   ·refine⟨by omega,by show _*8≤_;omega,fun q hq=>?_⟩
    cases Nat.lt_one_iff.1 hq;rfl
   refine XD.loc (Local.rowsAt (b:=b) (n:=1) (cap:=cap) hT rfl rfl rfl rfl rfl rfl rfl rfl rfl ⟨by omega,by omega⟩) ?_
   refine XD.loc (Local.rowsStore (k:=700) (q:=701) (s:=1) (b:=b) (j:=0) (n:=1) (cap:=cap) (g:=famQ 1000000 701 0) (e:=22) hT rfl rfl rfl rfl rfl rfl rfl rfl rfl ⟨htn,hcap⟩) ?_
   refine XD.e ?_
   refine XK.inv ⟨some (1,b,cap),⟨Nat.one_pos,by omega,by rw[hg1];exact hcap,hcmx⟩,?_,by dsimp only;omega⟩
   dsimp only
   rw[hg1]
   exact Weak.rowsClose 701 0 (famN (addN g0 0 0)) hN rfl rfl frI frI rfl rfl (fun j hj=>by(try dsimp only);(repeat (rw[upd_big hj rfl]));exact obQ_ge hj) (fun v _=>by show(bif Nat.beq v 0 then AV.vec 701 1 else bif Nat.beq v 0 then AV.vec 701 0 else AV.vec (1000000+v) 0)=_;cases Nat.beq v 0<;>rfl)
    (by show((addN g0 0 0) 0).length=(g0 0).length+1;unfold addN;rw[if_pos rfl];simp)
    (fun q hq=>by
     have:=row_snocD (fun q:Nat=>[AV.c (.int .i64 (q:Nat))]) (g0 0) 0 (rowOf [AV.c (.int .i64 ((0:Nat):Int))] 1) rfl q hq
     refine Eq.trans ?_ this
     show[AV.c (.int .i64 (((addN g0 0 0) 0).getD q default:Nat))]=_
     unfold addN
     rw[if_pos rfl])
    (fun q hq=>by
     have:(addN g0 0 0) q=g0 q:=by unfold addN;rw[if_neg hq]
     show famN (addN g0 0 0) q=famN g0 q
     unfold famN
     rw[this])
  ·have hN0:N=0:=by omega
   subst hN0
   refine XK.weak (Weak.rsNil 5 1 (fun j=>[natsV (([]:List (List Nat)).getD j default)]) (Nat.zero_le _) rfl) ?_
   refine XK.w ?_
   refine XK.t [0,1] ?_ ?_
   ·exact frI
   ·exact frI
 ·obtain⟨hi0,hiN,hnc,hcm⟩:=hz
  show XK E _ _ ⟨mkFr _,obF _ _ _ _ _,_,_,_⟩
  refine XK.c ?_ ?_<;>intro hlt<;>try simp at hlt
  ·have hlt:i<N:=by omega
   have hr0:=hro i hlt
   have hG:=hgo i
   have hnx:gaT f (i+1)=if f i=i then⟨(gaT f i).n+1,addN (gaT f i).g (gaT f i).n i,fun b=>if b=(i:Int) then some (gaT f i).n else(gaT f i).pl b⟩ else⟨(gaT f i).n,addN (gaT f i).g (((gaT f i).pl (f i:Nat)).getD 0) i,(gaT f i).pl⟩:=rfl
   have hgl1:=hgl i
   have hni:=hgn i
   have hfi:=h.rt.le i
   have hfi2:=h.rt.idem i
   generalize hs1:gaT f (i+1)=s1 at*
   generalize hs0:gaT f i=s at*
   refine XK.w ?_
   refine XK.r ?_
   refine XL.callMA [0,1] hE rfl rfl rfl rfl trivial (hr0) rfl rfl rfl rfl rfl ?_
   refine XL.e ?_
   refine XK.c ?_ ?_<;>intro h2<;>try simp at h2
   ·have h2:f i=i:=by omega
    rw[if_pos h2] at hnx
    rw[h2]
    refine XK.w ?_
    refine XK.region ?_
    refine XL.g ?_
    refine XL.weak (Weak.rowsOf (B:=1000000) (k:=700) (e:=22) (u2:=3) (sz:=1) (b:=b) (n':=s.n) (cap:=cap) (F:=famN s.g) (L:=[(24,rowsH b s.n cap),(25,.rs 1 1 (rowOf [.c (.slice none 0 0)] 1)),(5,rowsH b s.n cap),(1,.fn (.func 117) [] [.vptr 0 0 1 0 0,.ptr 1 0]),(6,.mp 195),(10,.c (.int .i64 N)),(7,.c (.int .i64 (i:Nat))),(8,.c (.int .i64 (i:Nat))),(11,.c (.int .i64 (i:Nat)))]) (O:=[(0,abO (abG ab (i+1))),(1,.cells 93 [.fn (.func 117) [] [.vptr 0 0 1 0 0,.ptr 1 0]]),(195,usO (fun b=>if b=((i:Nat):Int) then some s.n else s.pl b))]) (nx:=4000) (md:=fun _=>false) hN rfl rfl frI ⟨frI,frI,rfl,rfl,fun v hv=>us_put s.pl ((i:Nat):Int) s.n v hv⟩ rfl (Nat.le_refl _) (fun i hi=>rfl) (fun j hj=>by dsimp only[putAll];(repeat (rw[upd_big hj rfl]));exact obF_ge hj)) ?_
    refine XL.rowsGrow (famN s.g) hT rfl rfl rfl rfl rfl rfl rfl rfl rfl rfl rfl rfl rfl hN rfl rfl rfl hnc hcm (by omega) (by show(s.g s.n).length=0;rw[hG.out s.n (Nat.le_refl _)];rfl) (fun _ _=>rfl) fun b cap hcap hcmx=>?_
    refine XL.g ?_
    refine XL.fin ?_
    refine XK.weak (Weak.rowsOf (B:=1000000) (k:=700) (e:=22) (u2:=3) (sz:=1) (b:=b) (n':=(s.n+1)) (cap:=cap) (F:=famN s.g) (L:=[(5,rowsH b (s.n+1) cap),(1,.fn (.func 117) [] [.vptr 0 0 1 0 0,.ptr 1 0]),(6,.mp 195),(10,.c (.int .i64 N)),(7,.c (.int .i64 (i:Nat))),(8,.c (.int .i64 (i:Nat))),(11,.c (.int .i64 (i:Nat)))]) (O:=[(0,abO (abG ab (i+1))),(1,.cells 93 [.fn (.func 117) [] [.vptr 0 0 1 0 0,.ptr 1 0]]),(195,usO (fun b=>if b=((i:Nat):Int) then some s.n else s.pl b))]) (nx:=5000) (md:=fun _=>false) hN rfl rfl frI frI rfl (Nat.le_refl _) (fun i hi=>rfl) (fun j hj=>by(try dsimp only);(repeat (rw[upd_big hj rfl]));exact obF_ge hj)) ?_
    have hpl:(uV (fun b=>if b=((i:Nat):Int) then some s.n else s.pl b) (.int .i64 ((i:Nat):Int))).getD 0=s.n:=by
     show(if((i:Nat):Int)=((i:Nat):Int) then some s.n else _).getD 0=s.n
     rw[if_pos rfl];rfl
    have htn:s.n<s.n+1:=Nat.lt_succ_self _
    have hgb':(famN s.g s.n).1+1≤300000:=by have:=hgl1 s.n;show(s.g s.n).length+1≤_;omega
    refine XK.weak (Weak.rowsOpen 701 s.n hN rfl rfl rfl rfl rfl rfl rfl) ?_
    refine XK.drawn hm ?_
    refine XD.mv (y:=rowsH b (s.n+1) cap) rfl rfl rfl rfl rfl ?_
    refine XD.goN 2 hT rfl rfl rfl rfl rfl rfl ?_ ?_
    ·exact trivial
    refine XD.opE hT (y:=.c (.int .i64 ((s.n:Nat):Int))) rfl rfl rfl rfl trivial rfl (congrArg (fun q:Nat=>AV.c (.int .i64 (q:Int))) hpl) ?_
    refine XD.mv (y:=rowsH b (s.n+1) cap) rfl rfl rfl rfl rfl ?_
    refine XD.goN 2 hT rfl rfl rfl rfl rfl rfl ?_ ?_
    ·exact trivial
    refine XD.opE hT (y:=.c (.int .i64 ((s.n:Nat):Int))) rfl rfl rfl rfl trivial rfl (congrArg (fun q:Nat=>AV.c (.int .i64 (q:Int))) hpl) ?_
    refine XD.loc (Local.rowsAt (b:=b) (n:=(s.n+1)) (cap:=cap) hT rfl rfl rfl rfl rfl rfl rfl rfl rfl ⟨by omega,by omega⟩) ?_
    refine XD.loc (Local.rowsLoad (k:=700) (b:=b) (j:=s.n) (n:=(s.n+1)) (cap:=cap) (g:=famQ 1000000 701 s.n) (y:=.vec 701 0) (e:=22) hT rfl rfl rfl rfl rfl rfl rfl ⟨htn,hcap⟩ (by simp[famQ])) ?_
    refine XD.goN 3 hT rfl rfl rfl rfl rfl rfl ?_ ?_
    ·refine⟨by omega,by show _*8≤_;omega,fun q hq=>?_⟩
     cases Nat.lt_one_iff.1 hq;rfl
    refine XD.loc (Local.rowsAt (b:=b) (n:=(s.n+1)) (cap:=cap) hT rfl rfl rfl rfl rfl rfl rfl rfl rfl ⟨by omega,by omega⟩) ?_
    refine XD.loc (Local.rowsStore (k:=700) (q:=701) (s:=1) (b:=b) (j:=s.n) (n:=(s.n+1)) (cap:=cap) (g:=famQ 1000000 701 s.n) (e:=22) hT rfl rfl rfl rfl rfl rfl rfl rfl rfl ⟨htn,hcap⟩) ?_
    refine XD.e ?_
    refine XK.inv ⟨some (i+1,b,cap),⟨by omega,by omega,by rw[hs1,hnx];exact hcap,hcmx⟩,?_,by dsimp only;omega⟩
    dsimp only
    rw[hs1,hnx]
    exact Weak.rowsClose 701 s.n (famN (addN s.g s.n i)) hN rfl rfl frI frI rfl rfl (fun j hj=>by(try dsimp only);(repeat (rw[upd_big hj rfl]));exact obQ_ge hj) (fun v _=>by show(bif Nat.beq v s.n then AV.vec 701 1 else bif Nat.beq v s.n then AV.vec 701 0 else AV.vec (1000000+v) 0)=_;cases Nat.beq v s.n<;>rfl)
     (by show((addN s.g s.n i) s.n).length=(s.g s.n).length+1;unfold addN;rw[if_pos rfl];simp)
     (fun q hq=>by
      have:=row_snocD (fun q:Nat=>[AV.c (.int .i64 (q:Nat))]) (s.g s.n) i (rowOf [AV.c (.int .i64 ((i:Nat):Int))] 1) rfl q hq
      refine Eq.trans ?_ this
      show[AV.c (.int .i64 (((addN s.g s.n i) s.n).getD q default:Nat))]=_
      unfold addN
      rw[if_pos rfl])
     (fun q hq=>by
      have:(addN s.g s.n i) q=s.g q:=by unfold addN;rw[if_neg hq]
      show famN (addN s.g s.n i) q=famN s.g q
      unfold famN
      rw[this])
   ·have h2:¬f i=i:=by omega
    rw[if_neg h2] at hnx
    obtain⟨t,hp1,hp2,-⟩:=hG.place (f i) (by omega) hfi2
    rw[hp1] at hnx
    have hnx:s1=⟨s.n,addN s.g t i,s.pl⟩:=hnx
    generalize hr:f i=r at*
    refine XK.w ?_
    refine XK.weak (Weak.rowsOf (B:=1000000) (k:=700) (e:=22) (u2:=3) (sz:=1) (b:=b) (n':=s.n) (cap:=cap) (F:=famN s.g) (L:=[(5,rowsH b s.n cap),(1,.fn (.func 117) [] [.vptr 0 0 1 0 0,.ptr 1 0]),(6,.mp 195),(10,.c (.int .i64 N)),(7,.c (.int .i64 (i:Nat))),(8,.c (.int .i64 (r:Nat))),(11,.c (.int .i64 (i:Nat)))]) (O:=[(0,abO (abG ab (i+1))),(1,.cells 93 [.fn (.func 117) [] [.vptr 0 0 1 0 0,.ptr 1 0]]),(195,usO s.pl)]) (nx:=4000) (md:=fun _=>false) hN rfl rfl frI frI rfl (Nat.le_refl _) (fun i hi=>rfl) (fun j hj=>by dsimp only[putAll];(repeat (rw[upd_big hj rfl]));exact obF_ge hj)) ?_
    have hpl:(uV s.pl (.int .i64 ((r:Nat):Int))).getD 0=t:=by
     show(s.pl _).getD 0=t
     rw[hp1];rfl
    have htn:=hp2
    have hcap:=hnc
    have hgb':(famN s.g t).1+1≤300000:=by have:=hgl1 t;show(s.g t).length+1≤_;omega
    refine XK.weak (Weak.rowsOpen 701 t hN rfl rfl rfl rfl rfl rfl rfl) ?_
    refine XK.drawn hm ?_
    refine XD.mv (y:=rowsH b s.n cap) rfl rfl rfl rfl rfl ?_
    refine XD.goN 2 hT rfl rfl rfl rfl rfl rfl ?_ ?_
    ·exact trivial
    refine XD.opE hT (y:=.c (.int .i64 ((t:Nat):Int))) rfl rfl rfl rfl trivial rfl (congrArg (fun q:Nat=>AV.c (.int .i64 (q:Int))) hpl) ?_
    refine XD.mv (y:=rowsH b s.n cap) rfl rfl rfl rfl rfl ?_
    refine XD.goN 2 hT rfl rfl rfl rfl rfl rfl ?_ ?_
    ·exact trivial
    refine XD.opE hT (y:=.c (.int .i64 ((t:Nat):Int))) rfl rfl rfl rfl trivial rfl (congrArg (fun q:Nat=>AV.c (.int .i64 (q:Int))) hpl) ?_
    refine XD.loc (Local.rowsAt (b:=b) (n:=s.n) (cap:=cap) hT rfl rfl rfl rfl rfl rfl rfl rfl rfl ⟨by omega,by omega⟩) ?_
    refine XD.loc (Local.rowsLoad (k:=700) (b:=b) (j:=t) (n:=s.n) (cap:=cap) (g:=famQ 1000000 701 t) (y:=.vec 701 0) (e:=22) hT rfl rfl rfl rfl rfl rfl rfl ⟨htn,hcap⟩ (by simp[famQ])) ?_
    refine XD.goN 3 hT rfl rfl rfl rfl rfl rfl ?_ ?_
    ·refine⟨by omega,by show _*8≤_;omega,fun q hq=>?_⟩
     cases Nat.lt_one_iff.1 hq;rfl
    refine XD.loc (Local.rowsAt (b:=b) (n:=s.n) (cap:=cap) hT rfl rfl rfl rfl rfl rfl rfl rfl rfl ⟨by omega,by omega⟩) ?_
    refine XD.loc (Local.rowsStore (k:=700) (q:=701) (s:=1) (b:=b) (j:=t) (n:=s.n) (cap:=cap) (g:=famQ 1000000 701 t) (e:=22) hT rfl rfl rfl rfl rfl rfl rfl rfl rfl ⟨htn,hcap⟩) ?_
    refine XD.e ?_
    refine XK.inv ⟨some (i+1,b,cap),⟨by omega,by omega,by rw[hs1,hnx];exact hnc,hcm⟩,?_,by dsimp only;omega⟩
    dsimp only
    rw[hs1,hnx]
    exact Weak.rowsClose 701 t (famN (addN s.g t i)) hN rfl rfl frI frI rfl rfl (fun j hj=>by(try dsimp only);(repeat (rw[upd_big hj rfl]));exact obQ_ge hj) (fun v _=>by show(bif Nat.beq v t then AV.vec 701 1 else bif Nat.beq v t then AV.vec 701 0 else AV.vec (1000000+v) 0)=_;cases Nat.beq v t<;>rfl)
     (by show((addN s.g t i) t).length=(s.g t).length+1;unfold addN;rw[if_pos rfl];simp)
     (fun q hq=>by
      have:=row_snocD (fun q:Nat=>[AV.c (.int .i64 (q:Nat))]) (s.g t) i (rowOf [AV.c (.int .i64 ((i:Nat):Int))] 1) rfl q hq
      refine Eq.trans ?_ this
      show[AV.c (.int .i64 (((addN s.g t i) t).getD q default:Nat))]=_
      unfold addN
      rw[if_pos rfl])
     (fun q hq=>by
      have:(addN s.g t i) q=s.g q:=by unfold addN;rw[if_neg hq]
      show famN (addN s.g t i) q=famN s.g q
      unfold famN
      rw[this])
  ·have hie:i=N:=by omega
   subst hie
   refine XK.weak (Weak.trans (Weak.rowsOf (B:=1000000) (k:=700) (e:=22) (u2:=3) (sz:=1) (b:=b) (n':=(gaT f i).n) (cap:=cap) (F:=famN (gaT f i).g) (L:=[(5,rowsH b (gaT f i).n cap)]) (O:=[(0,abO (abG ab i)),(1,.cells 93 [.fn (.func 117) [] [.vptr 0 0 1 0 0,.ptr 1 0]])]) (nx:=7000) (md:=fun _=>false) hN rfl rfl frI frI rfl (Nat.le_refl _) (fun i hi=>rfl) (fun j hj=>by(try dsimp only);(repeat (rw[upd_big hj rfl]));exact obF_ge hj)) (Weak.rowsOut hN rfl rfl rfl hnc hcm)) ?_
   refine XK.w ?_
   refine XK.t [0,1] ?_ ?_
   ·exact frI
   ·refine⟨rfl,hpn,fun t ht=>?_⟩
    show[natsV ((partsOf i f).getD t default)]=[natsV ((gaT f i).g t)]
    rw[hpg t ht]
theorem comp_ok (k:K) (hF:KFacts k) (hv:(kValid k).1=0):Does Tryz.prog 81 [kV k] (nssV (compsL k)):=
 comp_of k hF hv fun ab hr=>gather_ok k.clauses.length ab _ hr hF.nc
end
section
open Go.Eng Go.RowKit Go.Lib
theorem unitsC_len {k:K} (h:(kValid k).1=0):k.units.length≤20:=by
 unfold kValid at h
 split at h
 ·simp at h
 ·rename_i h1
  simp only[Bool.or_eq_true,decide_eq_true_eq,not_or] at h1
  omega
theorem slOk {k:K} (hF:KFacts k) (hv:(kValid k).1=0) {p:Int} {x:Ps} (hpl:plB k p x=true):SlOk k p x (compsL k):=by
 have hP:=comps_parts hF
 have hu:k.units.length≤1000000:=by have:=unitsC_len hv;omega
 have hq:(0≤p∧p<k.parties)∧validS k x.1=true:=by unfold plB at hpl;simpa using hpl
 have hl:=validS_len hq.2
 have hnc:=hF.nc
 refine⟨?_,fun c hc=>?_⟩
 ·unfold compsL partsOf
  rw[List.length_map]
  have:=List.length_filter_le (fun r=>(cmpT k (wholeB k) k.clauses.length).1 r==r) (List.range k.clauses.length)
  rw[List.length_range] at this
  omega
 ·have hp:=hP.ok c hc
  have hlen:=hp.len
  have hpv:=partK_valid (show kOk k from⟨hF.w,hv⟩) hp
  refine⟨by omega,fun i hi=>by have:=hp.lt i hi;omega,?_,hpv,?_,part_ok k hF hv hu (offW_len hF) c hp (by omega)⟩
  ·exact(show kOk (partK k c) from⟨partK_W hF hp,hpv⟩).facts
  ·unfold plB
   rw[validS_part hF.w hp hq.2]
   show(decide (0≤p)&&decide (p<k.parties)&&true)=true
   simpa using hq.1
theorem slT_ok {k:K} {p:Int} {x:Ps} {P:List (List Nat)} (hP:SlOk k p x P):∀j,j≤P.length→(slT k p x P j).1=0→((slT k p x P j).2=[]↔∀q,q<j→SafeG (partK k (P.getD q default)) p (restS (P.getD q default) x.1,x.2))
 |0,_,_=>⟨fun _ q hq=>absurd hq (Nat.not_lt_zero _),fun _=>rfl⟩
 |j+1,hj,h=>by
  have h0:(slT k p x P j).1=0:=by
   by_cases q:(slT k p x P j).1=0
   ·exact q
   ·rw[slT,if_pos q] at h;exact absurd h q
  have ih:=slT_ok hP j (by omega) h0
  rw[slT,if_neg (by simpa using h0)] at h ⊢
  have hin:P.getD j default∈P:=by rw[List.getD_eq_getElem?_getD,List.getElem?_eq_getElem (show j<P.length by omega)];exact List.getElem_mem (show j<P.length by omega)
  obtain⟨-,-,c3,c4,c5,-⟩:=hP.cl _ hin
  dsimp only at h ⊢
  have hf:(fromR (partK k (P.getD j default)) p (restS (P.getD j default) x.1,x.2)).2=false:=by
   unfold ptE at h
   cases hq:(fromR (partK k (P.getD j default)) p (restS (P.getD j default) x.1,x.2)).2 with
   |false=>rfl
   |true=>rw[hq] at h;cases h
  obtain⟨-,-,hpos,hps⟩:=fromR_arena c3 c5 hf
  have hsf:=sfB_ok c3 c5 hf hpos
  rw[hps] at hsf
  have hpt:ptL (partK k (P.getD j default)) p (restS (P.getD j default) x.1,x.2)=true↔¬SafeG (partK k (P.getD j default)) p (restS (P.getD j default) x.1,x.2):=by
   unfold ptL
   rw[hf,←hsf]
   simp
  rw[List.append_eq_nil_iff,ih]
  constructor
  ·rintro⟨a,b⟩ q hq
   by_cases e:q=j
   ·subst e
    refine Classical.byContradiction fun hn=>?_
    rw[if_pos (hpt.2 hn)] at b
    cases b
   ·exact a q (by omega)
  ·intro a
   refine⟨fun q hq=>a q (by omega),?_⟩
   rw[if_neg fun hn=>hpt.1 hn (a j (by omega))]
theorem csB_ok {k:K} {p:Int} {x:Ps} {P:List (List Nat)} (hP:SlOk k p x P) (h:(slT k p x P P.length).1=0):csB k p x P=true↔∀cl∈P,SafeG (partK k cl) p (restS cl x.1,x.2):=by
 have h1:=slT_ok hP P.length (Nat.le_refl _) h
 unfold csB
 rw[h]
 simp only[BEq.rfl,Bool.true_and,beq_iff_eq,List.length_eq_zero_iff]
 rw[h1]
 constructor
 ·intro a cl hcl
  obtain⟨q,hq,rfl⟩:=List.getElem_of_mem hcl
  have:=a q hq
  rwa[List.getD_eq_getElem?_getD,List.getElem?_eq_getElem hq] at this
 ·intro a q hq
  exact a _ (by rw[List.getD_eq_getElem?_getD,List.getElem?_eq_getElem hq];exact List.getElem_mem hq)
theorem slT_err {k:K} {p:Int} {x:Ps} {P:List (List Nat)}:∀j,(slT k p x P j).1=0∨(slT k p x P j).1=3
 |0=>.inl rfl
 |j+1=>by
  rw[slT]
  split
  ·exact slT_err j
  ·show ptE _ _ _=0∨ptE _ _ _=3
   unfold ptE
   split
   ·exact .inr rfl
   ·exact .inl rfl
end
end Go.Proofs.YtgpkkllbejgmlaaGreatDoor
