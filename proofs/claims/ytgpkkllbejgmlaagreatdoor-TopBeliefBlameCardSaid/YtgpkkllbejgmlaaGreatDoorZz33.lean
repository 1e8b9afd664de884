import Derived.Test.YtgpkkllbejgmlaaGreatDoorZz14
import Derived.Test.YtgpkkllbejgmlaaGreatDoorZz26
import Derived.Test.YtgpkkllbejgmlaaGreatDoorZz18
import Derived.Test.YtgpkkllbejgmlaaGreatDoorZz21
import Derived.Test.YtgpkkllbejgmlaaGreatDoorZz22
import Derived.Test.YtgpkkllbejgmlaaGreatDoorZz32
import Derived.Test.YtgpkkllbejgmlaaGreatDoorRows
import Derived.WalkKit
import Derived.ProofKit
import Derived.OpenShut
import Derived.ChangeOld
import Derived.Below
import Derived.Lib.LaidTab
import Derived.LaidHandle
import Derived.ChangeVars
import Derived.ChangeSame
import Derived.JoinedOf
import Derived.Handed
set_option linter.unusedSimpArgs false
set_option linter.unusedVariables false
set_option maxRecDepth 10000
namespace Go.Proofs.YtgpkkllbejgmlaaGreatDoor
section
open Go.Eng Go.RowKit Go.Lib Go.Sort
abbrev Br:=List St×Int
def pE (p:Int) (r:Br):Int:=if r.2=0 then p else 0
def nilB:AV:=.agg [.c (.int .i64 0),.c (.slice none 0 0)]
def bE (p:Int) (r:Br):AV:=if r.2=0 then belV p r.1 else nilB
theorem bE_is {p:Int} {r:Br} (h:r.2≠0→r.1=[]):AvS (bE p r) (belV (pE p r) r.1):=by
 unfold bE pE
 by_cases h0:r.2=0
 ·rw[if_pos h0,if_pos h0];exact AvS.refl _
 ·rw[if_neg h0,if_neg h0,h h0];exact AvS.agg ⟨AvS.refl _,AvS.nil,trivial⟩
theorem AvS.pair {x x' y:AV} (h:AvS x x'):AvS (.tup [x,y]) (.tup [x',y]):=AvS.tup ⟨h,AvS.refl _,trivial⟩
noncomputable def bStartR (k:K) (p:Int):Br:=if((startS k).2!=0||decide (p<0)||decide (k.parties≤p))=true then([],1) else closR k p [(startS k).1]
theorem closR_err {k:K} {p:Int} {l:List St} (h:(closR k p l).2≠0):(closR k p l).1=[]:=by
 unfold closR at h ⊢
 split
 ·rfl
 ·rename_i q;rw[if_neg q] at h;exact absurd rfl h
theorem startS_valid {k:K} (hk:kW k) (h:(startS k).2=0):validS k (startS k).1=true:=by
 exact(startS_zero hk h).2.1
theorem bstart_ok (k:K) (hk:kW k) (p:Int):Does Tryz.prog 18 [kV k,.c (.int .i64 p)] (.tup [belV (pE p (bStartR k p)) (bStartR k p).1,.c (.int .i64 (bStartR k p).2)]):=by
 refine Does.weaken (res:=.tup [bE p (bStartR k p),.c (.int .i64 (bStartR k p).2)]) ?_ (AvS.pair (bE_is fun h=>by
  unfold bStartR at h ⊢
  split
  ·rfl
  ·rename_i q;rw[if_neg q] at h;exact closR_err h))
 have hst:=startS_ok k hk
 have hq:=startS_valid hk
 have hz:=fun h=>startS_zero hk h
 unfold bStartR
 generalize hs0:startS k=s0 at*
 obtain⟨s,e⟩:=s0
 dsimp only at hq hz
 refine Does.mk (fun _=>false) TT_ok Tryz.func18 rfl (by kernel_rfl) Tryz.ntmps18 rfl rfl fun E hT hE hN hR=>?_
 have hm:=mixO hE
 refine XK.w ?_
 refine XK.r ?_
 refine XL.callKA hE rfl rfl rfl rfl trivial rfl rfl (hst) ?_
 refine XL.e ?_
 refine XK.c ?_ ?_<;>intro h1
 ·rw[if_pos h1]
  refine XK.w ?_
  refine XK.q ?_
  unfold bE
  rw[if_neg (by simp)]
  rfl
 ·rw[if_neg (by rw[h1];simp)]
  have h1':=h1
  simp only[Bool.or_eq_false_iff,bne_eq_false_iff_eq] at h1'
  obtain⟨⟨h2,_⟩,_⟩:=h1'
  have hkv:=(hz h2).1
  have hcl:=closure_ok k (kOk.facts ⟨hk,hkv⟩) hkv p [s] (fun x hx=>by rw[List.mem_singleton.1 hx];exact hq h2) (by simp)
  generalize hr:closR k p [s]=r at*
  refine XK.w ?_
  refine XK.r ?_
  refine XL.callK hE rfl rfl rfl rfl trivial rfl rfl (hcl) ?_ ?_
  ·refine⟨AvIs.refl _,AvIs.refl _,rfl,rfl,fun i hi=>?_⟩
   cases Nat.lt_one_iff.1 hi;rfl
  refine XL.e ?_
  unfold bE
  refine XK.c ?_ ?_<;>intro h3
  ·rw[if_neg (by simpa using h3)]
   refine XK.w ?_
   refine XK.q ?_
   rfl
  ·have h3:r.2=0:=by simpa using h3
   rw[if_pos h3,h3]
   refine XK.w ?_
   refine XK.q ?_
   rfl
noncomputable def nx1 (k:K) (p t:Int) (s:St):Option St:=if(decide (k.days≤s.day)||(t !=-1&&!SeesR k s p t))=true then none else if(stepS k s t).2=0 then some (stepS k s t).1 else none
noncomputable def nxL (k:K) (p t:Int) (l:List St):List St:=l.filterMap (nx1 k p t)
theorem nxL_succ {k:K} {p t:Int} {l:List St} {i:Nat} (hi:i<l.length):nxL k p t (l.take (i+1))=nxL k p t (l.take i)++(nx1 k p t (l.getD i default)).toList:=by
 unfold nxL
 rw[List.take_add_one,List.getElem?_eq_getElem hi,List.filterMap_append,List.getD_eq_getElem?_getD,List.getElem?_eq_getElem hi]
 cases h:nx1 k p t l[i]<;>simp[h]
theorem nxL_len (k:K) (p t:Int) (l:List St):(nxL k p t l).length≤l.length:=List.length_filterMap_le _ _
theorem nxL_valid {k:K} (hk:kW k) {p t:Int} {l:List St}:∀s∈nxL k p t l,validS k s=true:=fun s hs=>by
 obtain⟨x,_,h⟩:=List.mem_filterMap.1 hs
 unfold nx1 at h
 split at h
 ·cases h
 ·split at h
  ·rename_i h2
   injection h with h
   subst h
   exact validS_step hk h2
  ·cases h
noncomputable def afterR (k:K) (p t:Int) (l:List St):Br:=
 if(t !=-1&&(decide (t<0)||decide ((k.acts.length:Int)≤t)))=true then([],1) else if nxL k p t l=[] then([],13) else closR k p (nxL k p t l)
theorem after_ok (k:K) (hk:kW k) (hv:(kValid k).1=0) (p t:Int) (l:List St) (hl:l.length≤300):Does Tryz.prog 19 [kV k,belV p l,.c (.int .i64 t)] (.tup [belV (pE p (afterR k p t l)) (afterR k p t l).1,.c (.int .i64 (afterR k p t l).2)]):=by
 refine Does.weaken (res:=.tup [bE p (afterR k p t l),.c (.int .i64 (afterR k p t l).2)]) ?_ (AvS.pair (bE_is fun h=>by
  unfold afterR at h ⊢
  split
  ·rfl
  ·rename_i q
   rw[if_neg q] at h
   split
   ·rfl
   ·rename_i q2;rw[if_neg q2] at h;exact closR_err h))
 unfold afterR
 refine Does.mk (fun _=>false) TT_ok Tryz.func19 rfl (by kernel_rfl) Tryz.ntmps19 rfl rfl fun E hT hE hN hR=>?_
 have hm:=mixO hE
 refine XK.c ?_ ?_<;>intro h1
 ·rw[if_pos h1]
  refine XK.w ?_
  refine XK.q ?_
  unfold bE
  rw[if_neg (by simp)]
  rfl
 ·rw[if_neg (by rw[h1];simp)]
  refine XK.w ?_
  refine XK.loop (ι:=Nat) (fun i=>ST.of [(2,.c (.int .i64 t)),(3,.ptr 3 0),(4,.ptr 4 0),(6,.ptr 6 0),(7,.c (.int .i64 0)),(8,.vec 900 0),(30,stsL l),(31,.c (.int .i64 l.length)),(32,.c (.int .i64 i))]
    [(3,.cells 27 (kC k)),(4,.cells 37 [.c (.int .i64 p),stsL l]),(6,.cells 37 [.c (.int .i64 0),.c (.slice none 0 0)]),(900,stO 0 (nxL k p t (l.take i)))] 1000 88 (fun _=>false))
   (fun i=>i≤l.length) (fun i=>l.length-i) 0 (Nat.zero_le _)
   (Weak.trans (Weak.ghost (j:=8) (k:=900) (e:=44) (sz:=4) (f:=fun _=>[]) rfl rfl) (Weak.of hN rfl rfl rfl frV (by(repeat' (first|exact rfl|exact AvIs.refl _|exact trivial|exact fun _ _=>rfl|exact fun _ _=>⟨rfl,AvIs.refl _⟩|exact cI (by omega)|exact(fun j hj=>absurd hj (Nat.not_lt_zero _))|refine⟨?_,?_⟩))))) fun i hi=>?_
  have hnl:(nxL k p t (l.take i)).length≤300:=by have:=nxL_len k p t (l.take i);rw[List.length_take] at this;omega
  refine XK.c ?_ ?_<;>intro hlt<;>try simp at hlt
  ·have hlt:i<l.length:=by omega
   have fx:l.getD (i:Int).toNat default=l.getD i default:=rfl
   have hsn:=nxL_succ (k:=k) (p:=p) (t:=t) hlt
   have hse:=sees2_ok k hk (l.getD i default) p t
   have hs:=stepS_ok k hk (l.getD i default) t
   have hnx:nx1 k p t (l.getD i default)=if(decide (k.days≤(l.getD i default).day)||(t !=-1&&!SeesR k (l.getD i default) p t))=true then none else if(stepS k (l.getD i default) t).2=0 then some (stepS k (l.getD i default) t).1 else none:=rfl
   have hq:∀u,u=stepS k (l.getD i default) t→Does Tryz.prog 16 [kV k,stV (l.getD i default),.c (.int .i64 t)] (sr u):=fun u hu=>hu▸hs
   clear hs
   generalize hu:stepS k (l.getD i default) t=u at*
   have hs:=hq u rfl
   clear hq
   generalize SeesR k (l.getD i default) p t=sb at*
   rw[hnx] at hsn
   clear hnx
   generalize nxL k p t (l.take i)=L at*
   generalize hL2:nxL k p t (l.take (i+1))=L2 at*
   refine XK.w ?_
   rw[fx]
   generalize l.getD i default=s at*
   refine XK.r ?_
   refine XL.callLG hE rfl rfl rfl rfl rfl rfl rfl (by first|(simp[AllP,impG];done)|(simp only[AllP,impG];grind)) rfl (fun hgd=>⟨hse,(by(repeat' (first|exact rfl|exact AvIs.refl _|exact trivial|(intro i hi;rfl)|exact fun _ _=>⟨rfl,AvIs.refl _⟩|(intro i hi;rcases i with _|_|_|_|_|_|_|i<;>first|rfl|exact absurd hi (by simp;done)|(simp at hi;omega))|refine⟨?_,?_⟩)))⟩) rfl ?_
   refine XL.e ?_
   refine XK.c ?_ ?_<;>intro h2
   ·rw[if_pos (by first|exact h2|simpa using h2)] at hsn
    refine XK.w ?_
    refine XK.inv ⟨i+1,hlt,?_,by omega⟩
    rw[hL2,hsn,Option.toList_none,List.append_nil]
    exact(Weak.of hN rfl rfl rfl frV frI)
   ·rw[if_neg (by first|(rw[h2];simp;done)|simpa using h2)] at hsn
    refine XK.w ?_
    refine XK.r ?_
    refine XL.callKA hE rfl rfl rfl rfl trivial rfl rfl (hs) ?_
    refine XL.e ?_
    refine XK.c ?_ ?_<;>intro h3<;>try simp at h3
    ·rw[if_pos h3] at hsn
     refine XK.w ?_
     refine XK.inv ⟨i+1,hlt,?_,by omega⟩
     rw[hL2,hsn,Option.toList_some]
     exact Weak.trans (Weak.stamp (k:=900) (t:=0) hN rfl rfl) (Weak.of hN rfl rfl rfl frV ⟨frI,frI,frI,⟨rfl,rfl,rfl⟩,by simp,row_snocD stC L u.1 _ rfl⟩)
    ·rw[if_neg h3] at hsn
     refine XK.w ?_
     refine XK.inv ⟨i+1,hlt,?_,by omega⟩
     rw[hL2,hsn,Option.toList_none,List.append_nil]
     exact(Weak.of hN rfl rfl rfl frV frI)
  ·have hie:i=l.length:=by omega
   subst hie
   rw[List.take_length] at hnl ⊢
   have hnv:=nxL_valid (l:=l) hk (p:=p) (t:=t)
   generalize nxL k p t l=L at*
   refine XK.weak (Weak.trans (Weak.frozen (k:=900) hN rfl rfl) (Weak.of (L:=[(3,.ptr 3 0),(4,.ptr 4 0),(6,.ptr 6 0),(8,stsL L)]) (O:=[(3,.cells 27 (kC k)),(4,.cells 37 [.c (.int .i64 p),stsL l]),(6,.cells 37 [.c (.int .i64 0),.c (.slice none 0 0)])]) (nx:=2000) (nt:=88) (md:=fun _=>false) hN rfl rfl rfl frI frI)) ?_
   refine XK.c ?_ ?_<;>intro h4<;>try simp at h4
   ·rw[if_pos h4]
    refine XK.w ?_
    refine XK.q ?_
    unfold bE
    rw[if_neg (by simp)]
    rfl
   ·rw[if_neg h4]
    have hcl:=closure_ok k (kOk.facts ⟨hk,hv⟩) hv p L hnv (by omega)
    generalize hr:closR k p L=r at*
    refine XK.w ?_
    refine XK.r ?_
    refine XL.callKA hE rfl rfl rfl rfl trivial rfl rfl (hcl) ?_
    refine XL.e ?_
    unfold bE
    refine XK.c ?_ ?_<;>intro h3
    ·rw[if_neg (by simpa using h3)]
     refine XK.w ?_
     refine XK.q ?_
     rfl
    ·have h3:r.2=0:=by simpa using h3
     rw[if_pos h3,h3]
     refine XK.w ?_
     refine XK.q ?_
     rfl
end
section
open Go.Eng Go.RowKit Go.Lib Go.Sort
theorem closR_len (k:K) (p:Int) (l:List St):(closR k p l).1.length≤300:=by
 unfold closR
 split
 ·simp
 ·rename_i h
  show(List.map _ _).length≤_
  unfold txL
  rw[List.length_map,sortB_len,List.length_map]
  omega
theorem afterR_facts (k:K) (p t:Int) (l:List St):(afterR k p t l).1.length≤300∧((afterR k p t l).2≠0→(afterR k p t l).1=[]):=by
 unfold afterR
 split
 ·exact⟨by simp,fun _=>rfl⟩
 ·split
  ·exact⟨by simp,fun _=>rfl⟩
  ·exact⟨closR_len _ _ _,closR_err⟩
theorem bStartR_facts (k:K) (p:Int):(bStartR k p).1.length≤300∧((bStartR k p).2≠0→(bStartR k p).1=[]):=by
 unfold bStartR
 split
 ·exact⟨by simp,fun _=>rfl⟩
 ·exact⟨closR_len _ _ _,closR_err⟩
noncomputable def wtS (k:K) (p:Int) (v:List Int):Nat→Br
 |0=>bStartR k p
 |i+1=>if(wtS k p v i).2=0 then afterR k p (v.getD i default) (wtS k p v i).1 else wtS k p v i
theorem wtS_facts (k:K) (p:Int) (v:List Int):∀i,(wtS k p v i).1.length≤300∧((wtS k p v i).2≠0→(wtS k p v i).1=[])
 |0=>bStartR_facts k p
 |i+1=>by
  rw[wtS]
  split
  ·exact afterR_facts _ _ _ _
  ·exact wtS_facts k p v i
theorem wtS_stop {k:K} {p:Int} {v:List Int} {i:Nat} (h:(wtS k p v i).2≠0):∀m,i≤m→wtS k p v m=wtS k p v i:=by
 intro m hm
 induction m with
 |zero=>have:i=0:=by omega
        rw[this]
 |succ m ih=>
  by_cases h1:i=m+1
  ·rw[h1]
  ·have h2:=ih (by omega)
   rw[wtS,if_neg (by rw[h2];exact h),h2]
noncomputable def watchR (k:K) (p:Int) (v:List Int):Br:=if(bStartR k p).2≠0 then([],(bStartR k p).2) else if 4000<v.length then([],3) else wtS k p v v.length
theorem watchR_err {k:K} {p:Int} {v:List Int} (h:(watchR k p v).2≠0):(watchR k p v).1=[]:=by
 unfold watchR at h ⊢
 split
 ·rfl
 ·rename_i q
  rw[if_neg q] at h
  split
  ·rfl
  ·rename_i q2;rw[if_neg q2] at h;exact(wtS_facts k p v _).2 h
theorem watch_ok (k:K) (hk:kW k) (p:Int) (v:List Int):Does Tryz.prog 9 [kV k,.c (.int .i64 p),intsV v] (.tup [belV (pE p (watchR k p v)) (watchR k p v).1,.c (.int .i64 (watchR k p v).2)]):=by
 refine Does.weaken (res:=.tup [bE p (watchR k p v),.c (.int .i64 (watchR k p v).2)]) ?_ (AvS.pair (bE_is watchR_err))
 have hst:=bstart_ok k hk p
 have hf:=fun i=>wtS_facts k p v i
 have hkv:(bStartR k p).2=0→(kValid k).1=0:=fun h=>by
  unfold bStartR at h
  split at h
  ·cases h
  ·rename_i q
   simp only[Bool.or_eq_true,bne_iff_ne,not_or,Decidable.not_not] at q
   exact(startS_zero hk q.1.1).1
 have e0:wtS k p v 0=bStartR k p:=rfl
 unfold watchR
 rw[←e0] at hst hkv ⊢
 generalize hr0:wtS k p v 0=r0 at*
 refine Does.mk (fun _=>false) TT_ok Tryz.func9 rfl (by kernel_rfl) Tryz.ntmps9 rfl rfl fun E hT hE hN hR=>?_
 have hm:=mixO hE
 refine XK.w ?_
 refine XK.r ?_
 refine XL.callKA hE rfl rfl rfl rfl trivial rfl rfl (hst) ?_
 refine XL.e ?_
 refine XK.c ?_ ?_<;>intro h1
 ·have h1:r0.2≠0:=by simpa using h1
  rw[if_pos h1]
  refine XK.w ?_
  refine XK.q ?_
  unfold bE
  rw[if_neg h1]
  rfl
 ·have h1:r0.2=0:=by simpa using h1
  rw[if_neg (by simpa using h1)]
  have hkv:=hkv h1
  refine XK.c ?_ ?_<;>intro h2<;>try simp at h2
  ·rw[if_pos (by omega)]
   refine XK.w ?_
   refine XK.q ?_
   unfold bE
   rw[if_neg (by simp)]
   rfl
  ·rw[if_neg (by omega)]
   refine XK.w ?_
   refine XK.loop (ι:=Nat) (fun i=>ST.of [(1,.c (.int .i64 p)),(3,.ptr 3 0),(6,.ptr 6 0),(8,.ptr 53 0),(26,intsV v),(27,.c (.int .i64 v.length)),(28,.c (.int .i64 i))]
     [(3,.cells 27 (kC k)),(6,.cells 37 [.c (.int .i64 0),.c (.slice none 0 0)]),(53,.cells 37 [.c (.int .i64 p),stsL (wtS k p v i).1])] 1000 45 (fun _=>false))
    (fun i=>i≤v.length∧(wtS k p v i).2=0) (fun i=>v.length-i) 0 ⟨Nat.zero_le _,by rw[hr0];exact h1⟩ (Weak.of hN rfl rfl rfl frV (by rw[hr0,show pE p r0=p from if_pos h1];(repeat' (first|exact rfl|exact AvIs.refl _|exact trivial|exact fun _ _=>rfl|exact fun _ _=>⟨rfl,AvIs.refl _⟩|refine⟨?_,?_⟩)))) fun i hi=>?_
   obtain⟨hi,hz⟩:=hi
   refine XK.c ?_ ?_<;>intro hlt<;>try simp at hlt
   ·have hlt:i<v.length:=by omega
    have fx:v.getD (i:Int).toNat default=v.getD i default:=rfl
    have ha:=after_ok k hk hkv p (v.getD i default) (wtS k p v i).1 (hf i).1
    have hn:wtS k p v (i+1)=afterR k p (v.getD i default) (wtS k p v i).1:=by rw[wtS,if_pos hz]
    rw[←hn] at ha
    have hfn:=hf (i+1)
    have hstop:=fun h=>wtS_stop (k:=k) (p:=p) (v:=v) (i:=i+1) h v.length hlt
    clear hn
    generalize hd:wtS k p v (i+1)=d at*
    refine XK.w ?_
    rw[fx]
    refine XK.r ?_
    refine XL.callKA hE rfl rfl rfl rfl trivial rfl rfl (ha) ?_
    refine XL.e ?_
    refine XK.c ?_ ?_<;>intro h3
    ·have h3:d.2≠0:=by simpa using h3
     rw[hstop h3]
     refine XK.w ?_
     refine XK.q ?_
     unfold bE
     rw[if_neg h3]
     rfl
    ·have h3:d.2=0:=by simpa using h3
     refine XK.w ?_
     refine XK.inv ⟨i+1,⟨hlt,by rw[hd];exact h3⟩,?_,by omega⟩
     rw[hd]
     exact Weak.of hN rfl rfl rfl frV (by rw[show pE p d=p from if_pos h3];(repeat' (first|exact rfl|exact AvIs.refl _|exact trivial|exact fun _ _=>rfl|exact fun _ _=>⟨rfl,AvIs.refl _⟩|refine⟨?_,?_⟩)))
   ·have hie:i=v.length:=by omega
    subst hie
    generalize wtS k p v v.length=d at*
    refine XK.w ?_
    refine XK.q ?_
    unfold bE
    rw[if_pos hz,hz]
    rfl
end
section
open Go.Eng
theorem wt_clos {k:K} (hk:kW k) (hF:KFacts k) {p:Int} {v:List Int}:∀j,(wtS k p v j).2=0→∃L,(∀s∈L,validS k s=true)∧wtS k p v j=closR k p L∧(j=0→(startS k).1∈L)∧∀i,j=i+1→(wtS k p v i).2=0∧L=nxL k p (v.getD i default) (wtS k p v i).1
 |0,h=>by
  rw[show wtS k p v 0=bStartR k p from rfl] at h ⊢
  unfold bStartR at h ⊢
  split at h
  ·cases h
  ·rename_i q
   rw[if_neg q]
   simp only[Bool.or_eq_true,bne_iff_ne,not_or,Decidable.not_not] at q
   exact⟨_,fun s hs=>by rw[List.mem_singleton.1 hs];exact startS_valid hk q.1.1,rfl,fun _=>List.mem_singleton.2 rfl,fun i hi=>by omega⟩
 |j+1,h=>by
  have hj:(wtS k p v j).2=0:=by
   by_cases q:(wtS k p v j).2=0
   ·exact q
   ·rw[wtS,if_neg q] at h;exact absurd h q
  have e:wtS k p v (j+1)=afterR k p (v.getD j default) (wtS k p v j).1:=by rw[wtS,if_pos hj]
  rw[e] at h ⊢
  unfold afterR at h ⊢
  split at h
  ·cases h
  ·rename_i q1
   rw[if_neg q1]
   split at h
   ·cases h
   ·rename_i q2
    rw[if_neg q2]
    exact⟨_,nxL_valid hk,rfl,fun h=>by omega,fun i hi=>by
     have:i=j:=by omega
     subst this
     exact⟨hj,rfl⟩⟩
theorem watch_true {k:K} (hk:kW k) (hF:KFacts k) {p:Int} (hp:0≤p∧p<k.parties) {l:List Int} (hok:∀j,j≤l.length→(runE k l j).2=0) (hw:(watchR k p (seenL k p l l.length)).2=0):
  (runE k l l.length).1∈(watchR k p (seenL k p l l.length)).1:=by
 generalize hv:seenL k p l l.length=v at*
 have hb0:(bStartR k p).2=0:=by
  by_cases q:(bStartR k p).2=0
  ·exact q
  ·unfold watchR at hw;rw[if_pos q] at hw;exact absurd hw q
 have hlen:¬4000<v.length:=fun q=>by unfold watchR at hw;rw[if_neg (by omega),if_pos q] at hw;cases hw
 have e:watchR k p v=wtS k p v v.length:=by unfold watchR;rw[if_neg (by omega),if_neg hlen]
 rw[e] at hw ⊢
 have hz:∀j,j≤v.length→(wtS k p v j).2=0:=fun j hj=>by
  by_cases q:(wtS k p v j).2=0
  ·exact q
  ·rw[wtS_stop q _ hj] at hw;exact hw
 have:=bel_true hF hp hok (B:=fun j s=>j≤v.length→s∈(wtS k p v j).1) (fun h=>?_) (fun j s a h1 h2 h3 h4=>?_) (fun j h1 s h2 h3 h4 h5=>?_) l.length (Nat.le_refl _)
 ·rw[hv] at this
  exact this (Nat.le_refl _)
 ·obtain⟨L,q1,q2,q3,-⟩:=wt_clos hk hF 0 (hz 0 h)
  have h0:=hz 0 h
  rw[q2] at h0 ⊢
  exact(clos_facts hk q1 h0).1 _ (q3 rfl)
 ·obtain⟨L,q1,q2,-,-⟩:=wt_clos hk hF j (hz j h4)
  have h0:=hz j h4
  have h1:=h1 h4
  rw[q2] at h0 h1 ⊢
  obtain⟨g1,g2,g3,g4,-⟩:=stepS_good h3
  have:=(validS_len g1).2.2.2.2.1.2
  exact(clos_facts hk q1 h0).2.2.1 s h1 a (by omega) h2 (by omega) h3
 ·rw[hv] at h1 h3 h4 ⊢
  obtain⟨L,q1,q2,-,q3⟩:=wt_clos hk hF (j+1) (hz _ h5)
  obtain⟨q4,q5⟩:=q3 j rfl
  have h0:=hz _ h5
  rw[q2] at h0 ⊢
  refine(clos_facts hk q1 h0).1 _ ?_
  rw[q5]
  refine List.mem_filterMap.2 ⟨s,h2 (by omega),?_⟩
  obtain⟨g1,g2,g3,g4,-⟩:=stepS_good h3
  have:=(validS_len g1).2.2.2.2.1.2
  unfold nx1
  rw[if_neg,if_pos h3]
  simp only[Bool.or_eq_true,decide_eq_true_eq,Bool.and_eq_true,bne_iff_ne,ne_eq,Bool.not_eq_true',not_or]
  refine⟨by omega,fun q=>?_⟩
  rcases h4 with h4|h4
  ·exact q.1 h4
  ·rw[h4] at q;exact absurd q.2 (by simp)
end
section
open Go.Eng Go.RowKit Go.Lib Go.Sort
def prvCl:Cl:=⟨4,-1,0,1,[],2,0,false,false,-1,-1,(0,1),-1,-1,false⟩
def prvK:K:=⟨3,[0,1,2],[],[⟨1,0,0,1,-1,(0,1)⟩],[prvCl],4,[]⟩
theorem prvK_W:kW prvK:=by
 simp[kW,prvK,prvCl,inK,clW,actW,qW]
set_option maxRecDepth 100000 in
theorem prv2:jointR prvK [0,-1,-1] [1]=([0,-1,-1],0):=by decide+kernel
set_option maxRecDepth 100000 in
theorem prv3:jointR prvK [0,-1,-1] [2]=([-1,-1],0):=by decide+kernel
theorem prv4:(watchR prvK 1 [0,-1,-1]).2=0∧(watchR prvK 1 [0,-1,-1]).1.length=1∧verdR prvK 1 (watchR prvK 1 [0,-1,-1]).1 0=1:=by decide+kernel
theorem prv5:(watchR prvK 2 [-1,-1]).2=0∧(watchR prvK 2 [-1,-1]).1.length=2∧verdR prvK 2 (watchR prvK 2 [-1,-1]).1 0=1∧((watchR prvK 2 [-1,-1]).1.getD 0 default).marks.length=1∧((watchR prvK 2 [-1,-1]).1.getD 1 default).marks.length=1∧
  ((((watchR prvK 2 [-1,-1]).1.getD 0 default).marks.getD 0 default).status !=(((watchR prvK 2 [-1,-1]).1.getD 1 default).marks.getD 0 default).status)=true:=by decide+kernel
theorem private_ok:Does Tryz.prog 14 [] (kV prvK):=by
 refine Does.weaken (res:=?x) ?_ ?_
 rotate_left
 refine Does.mk (fun _=>false) TT_ok Tryz.func14 rfl (by kernel_rfl) Tryz.ntmps14 rfl rfl fun E hT hE hN hR=>?_
 have hm:=mixO hE
 refine XK.w ?_
 refine XK.q ?_
 rfl
 ·refine AvS.agg ⟨AvS.refl _,AvS.rs (fun i hi=>?_),AvS.nil,AvS.rs (fun i hi=>?_),AvS.rs (fun i hi=>?_),AvS.refl _,AvS.nil,trivial⟩
  ·rcases i with _|_|_|i<;>first|exact AvSL.refl _|omega
  ·cases Nat.lt_one_iff.1 hi;exact AvSL.refl _
  ·cases Nat.lt_one_iff.1 hi
   exact⟨AvS.refl _,AvS.refl _,AvS.refl _,AvS.refl _,AvS.nil,AvS.refl _,AvS.refl _,AvS.refl _,AvS.refl _,AvS.refl _,AvS.refl _,AvS.refl _,AvS.refl _,AvS.refl _,AvS.refl _,AvS.refl _,trivial⟩
theorem rowI3 (a b c:Int):AvS (.rs 1 3 (rowOf [.c (.int .i64 a),.c (.int .i64 b),.c (.int .i64 c)] 1)) (intsV [a,b,c]):=by
 refine AvS.rs (fun i hi=>?_)
 rcases i with _|_|_|i<;>first|exact AvSL.refl _|omega
theorem monitors_ok:Does Tryz.prog 4 [] (.c (.bool true)):=by
 have v1:=(view_ok prvK prvK_W [0,-1,-1] 1).argS (args':=[kV prvK,.rs 1 3 (rowOf [.c (.int .i64 0),.c (.int .i64 (-1)),.c (.int .i64 (-1))] 1),.c (.int .i64 1)]) ⟨AvS.refl _,rowI3 _ _ _,AvS.refl _,trivial⟩
 have v2:=(view_ok prvK prvK_W [0,-1,-1] 2).argS (args':=[kV prvK,.rs 1 3 (rowOf [.c (.int .i64 0),.c (.int .i64 (-1)),.c (.int .i64 (-1))] 1),.c (.int .i64 2)]) ⟨AvS.refl _,rowI3 _ _ _,AvS.refl _,trivial⟩
 rw[prv2] at v1
 rw[prv3] at v2
 have w1:=watch_ok prvK prvK_W 1 [0,-1,-1]
 have w2:=watch_ok prvK prvK_W 2 [-1,-1]
 obtain⟨a1,a2,a3⟩:=prv4
 obtain⟨b1,b2,b3,b4,b5,b6⟩:=prv5
 generalize watchR prvK 1 [0,-1,-1]=A at*
 generalize watchR prvK 2 [-1,-1]=B at*
 obtain⟨l1,e1⟩:=A
 obtain⟨l2,e2⟩:=B
 dsimp only at*
 subst a1 b1
 have d1:=verdict_ok prvK prvK_W 1 l1 0
 have d2:=verdict_ok prvK prvK_W 2 l2 0
 rw[a3] at d1
 rw[b3] at d2
 unfold pE at w1 w2
 rw[if_pos rfl] at w1 w2
 generalize hK:prvK=K0 at*
 refine Does.mk (fun _=>false) TT_ok Tryz.func4 rfl (by kernel_rfl) Tryz.ntmps4 rfl rfl fun E hT hE hN hR=>?_
 have hm:=mixO hE
 refine XK.w ?_
 refine XK.r ?_
 refine XL.callKA hE rfl rfl rfl rfl trivial rfl rfl (hK▸private_ok) ?_
 refine XL.e ?_
 refine XK.r ?_
 refine XL.callKA hE rfl rfl rfl rfl trivial rfl rfl (v1) ?_
 refine XL.e ?_
 refine XK.r ?_
 refine XL.callKA hE rfl rfl rfl rfl trivial rfl rfl (v2) ?_
 refine XL.e ?_
 refine XK.r ?_
 refine XL.callKA hE rfl rfl rfl rfl trivial rfl rfl (w1) ?_
 refine XL.e ?_
 refine XK.r ?_
 refine XL.callKA hE rfl rfl rfl rfl trivial rfl rfl (w2) ?_
 refine XL.e ?_
 refine XK.s ?_
 refine XD.callKG hE rfl rfl rfl rfl rfl rfl rfl (by first|(simp[AllP,impG];done)|(simp only[AllP,impG];grind)) rfl rfl (fun hgd=>⟨d1,(by(repeat' (first|exact rfl|exact AvIs.refl _|exact trivial|(intro i hi;rfl)|exact fun _ _=>⟨rfl,AvIs.refl _⟩|(intro i hi;rcases i with _|_|_|_|_|_|_|i<;>first|rfl|exact absurd hi (by simp;done)|(simp at hi;omega))|refine⟨?_,?_⟩)))⟩) rfl ?_
 refine XD.g ?_
 refine XD.callKG hE rfl rfl rfl rfl rfl rfl rfl (by first|(simp[AllP,impG];done)|(simp only[AllP,impG];grind)) rfl rfl (fun hgd=>⟨d2,(by(repeat' (first|exact rfl|exact AvIs.refl _|exact trivial|(intro i hi;rfl)|exact fun _ _=>⟨rfl,AvIs.refl _⟩|(intro i hi;rcases i with _|_|_|_|_|_|_|i<;>first|rfl|exact absurd hi (by simp;done)|(simp at hi;omega))|refine⟨?_,?_⟩)))⟩) rfl ?_
 refine XD.e ?_
 refine XK.q ?_
 refine cB ?_
 clear hm hT hE hN hR v1 v2 w1 w2 d1 d2
 have f0:l2.getD (0:Int).toNat default=l2.getD 0 default:=rfl
 have f1:l2.getD (1:Int).toNat default=l2.getD 1 default:=rfl
 have g0:∀l:List Mk,l.getD (0:Int).toNat default=l.getD 0 default:=fun _=>rfl
 rw[f0,f1,g0,g0,b6,a2,b2]
 rfl
end
section
open Go.Eng Go.RowKit Go.Lib Go.Sort
theorem blame_law {k:K} (hk:kW k) {o p:Int} (ho:0≤o∧o<k.parties) (hp:0≤p∧p<k.parties) {l:List Int} (h0:(startS k).2=0) (hl:l.length≤4000) (hok:∀j,j≤l.length→(runE k l j).2=0) (hw:(watchR k o (jointR k l [o]).1).2=0) {q:Int} (hb:blamesR k q (watchR k o (jointR k l [o]).1).1 p=3)
  (hs:csB k p ((runE k l 0).1,true) (compsL k)=true) (he:(fiR k p l).2.2.2=0):0≤fiA (fiR k p l):=by
 have hv:=(startS_zero hk h0).1
 have hF:=(show kOk k from⟨hk,hv⟩).facts
 rw[view_seen ho hl hok] at hw hb
 have hin:=watch_true hk hF ho hok hw
 have hbr:=blames_all hb _ hin
 unfold fiA
 rw[if_neg (by simpa using he)]
 split
 ·rename_i h
  have:=lose_law hF hv hp hok hs he h
  rw[hbr] at this
  cases this
 ·exact loT_at l.length
theorem view_err {k:K} {l L:List Int} (h:(startS k).2≠0):(jointR k l L).2≠0:=by
 unfold jointR
 rw[if_pos h]
 simp
theorem lawBB (k:K) (hk:kW k) (o p:Int) (ho:0≤o∧o≤255) (hp:0≤p∧p≤255) (st:List Int):Does Tryz.prog 3 [kV k,.c (.int .u8 o),.c (.int .u8 p),intsV st] (.c (.bool true)):=by
 refine Does.mk (fun _=>false) TT_ok Tryz.func3 rfl (by kernel_rfl) Tryz.ntmps3 rfl rfl fun E hT hE hN hR=>?_
 have hm:=mixO hE
 refine XK.w ?_
 refine XK.r ?_
 refine XL.callLA hE rfl rfl rfl rfl trivial rfl (monitors_ok) rfl ?_
 refine XL.e ?_
 refine XK.w ?_
 refine XK.r ?_
 refine XL.callLA hE rfl rfl rfl rfl trivial rfl (tame_ok k) rfl ?_
 refine XL.g ?_
 refine XL.callLG hE rfl rfl rfl rfl rfl rfl rfl (by first|(simp[AllP,impG];done)|(simp only[AllP,impG];grind)) rfl (fun hgd=>⟨smallQ_ok k 3,(by(repeat' (first|exact rfl|exact AvIs.refl _|exact trivial|(intro i hi;rfl)|exact fun _ _=>⟨rfl,AvIs.refl _⟩|(intro i hi;rcases i with _|_|_|_|_|_|_|i<;>first|rfl|exact absurd hi (by simp;done)|(simp at hi;omega))|refine⟨?_,?_⟩)))⟩) rfl ?_
 refine XL.e ?_
 refine XK.c ?_ ?_<;>intro h1
 ·refine XK.w ?_
  refine XK.q ?_
  rfl
 simp only[Bool.or_eq_false_iff,Bool.not_eq_false',decide_eq_false_iff_not] at h1
 obtain⟨⟨⟨⟨htm,hsm⟩,hdy⟩,h12⟩,hpar⟩:=h1
 have h12:st.length≤12:=by omega
 have hq0:0≤p%k.parties:=Int.emod_nonneg _ (by omega)
 have hq1:p%k.parties<k.parties:=Int.emod_lt_of_pos _ (by omega)
 have hr0:0≤o%k.parties:=Int.emod_nonneg _ (by omega)
 have hr1:o%k.parties<k.parties:=Int.emod_lt_of_pos _ (by omega)
 have hst:=steps_ok k hk st (by omega)
 have hb:=fun(l:List Int) (q:Int)=>blame_law (k:=k) (l:=l) (q:=q) hk ⟨hr0,hr1⟩ ⟨hq0,hq1⟩
 refine XK.w ?_
 have hqt:p.tmod k.parties=p%k.parties:=Int.tmod_eq_emod_of_nonneg hp.1
 have hot:o.tmod k.parties=o%k.parties:=Int.tmod_eq_emod_of_nonneg ho.1
 refine XK.weak (st':=ST.of [(3,intsV st),(4,.ptr 4 0),(9,.c (.bool true)),(10,.c (.int .i64 (o%k.parties))),(11,.c (.int .i64 (p%k.parties)))] [(4,.cells 27 (kC k))] 1000 137 (fun _=>false)) (Weak.of hN rfl rfl rfl (by rw[←hqt,←hot];(repeat' (first|exact rfl|exact AvIs.refl _|exact trivial|exact fun _ _=>rfl|exact fun _ _=>⟨rfl,AvIs.refl _⟩|refine⟨?_,?_⟩))) frI) ?_
 clear hqt hot hr0 hr1 ho hp
 generalize o%k.parties=o at*
 generalize p%k.parties=p at*
 have hsf:=fun h=>stT_facts (k:=k) (l:=st) h
 have hlt:=stT_len k st st.length
 generalize (stT k st st.length).2=l at*
 have hvi:=view_ok k hk l o
 have hve:=fun h=>view_err (k:=k) (l:=l) (L:=[o]) h
 have hb:=hb l
 generalize jointR k l [o]=v at*
 obtain⟨v,e1⟩:=v
 dsimp only at hve hb
 have hwa:=watch_ok k hk o v
 have hbl:=fun q l=>blames_ok k hk q l p
 generalize watchR k o v=w at*
 obtain⟨w,e2⟩:=w
 dsimp only at hwa hb
 have hbl:=hbl (pE o (w,e2)) w
 have hb:=hb (pE o (w,e2))
 generalize pE o (w,e2)=q at*
 generalize blamesR k q w p=b at*
 refine XK.r ?_
 refine XL.callKA hE rfl rfl rfl rfl trivial rfl rfl (hst) ?_
 refine XL.e ?_
 refine XK.r ?_
 refine XL.callKA hE rfl rfl rfl rfl trivial rfl rfl (hvi) ?_
 refine XL.e ?_
 refine XK.r ?_
 refine XL.callKA hE rfl rfl rfl rfl trivial rfl rfl (hwa) ?_
 refine XL.e ?_
 refine XK.r ?_
 refine XL.callLG hE rfl rfl rfl rfl rfl rfl rfl (by first|(simp[AllP,impG];done)|(simp only[AllP,impG];grind)) rfl (fun hgd=>⟨hbl,(by(repeat' (first|exact rfl|exact AvIs.refl _|exact trivial|(intro i hi;rfl)|exact fun _ _=>⟨rfl,AvIs.refl _⟩|(intro i hi;rcases i with _|_|_|_|_|_|_|i<;>first|rfl|exact absurd hi (by simp;done)|(simp at hi;omega))|refine⟨?_,?_⟩)))⟩) rfl ?_
 refine XL.e ?_
 refine XK.c ?_ ?_<;>intro h2
 ·refine XK.w ?_
  refine XK.q ?_
  rfl
 simp only[Bool.or_eq_false_iff,bne_eq_false_iff_eq] at h2
 obtain⟨⟨h3,h4⟩,h5⟩:=h2
 have h0:(startS k).2=0:=Decidable.byContradiction fun h=>hve h h3
 obtain⟨hl1,hok⟩:=hsf h0
 have hv:=(startS_zero hk h0).1
 have hF:=(show kOk k from⟨hk,hv⟩).facts
 have hb:=hb h0 (by omega) hok h4 h5
 have hs:=startS_ok k hk
 have hpl:plB k p ((startS k).1,true)=true:=by unfold plB;rw[decide_eq_true hq0,decide_eq_true hq1];exact(startS_zero hk h0).2.1
 have hcs:=csafe_ok k hF p ((startS k).1,true) hpl (compsL k) (slOk hF hv hpl) (comp_ok k hF hv)
 have her:=slT_err (k:=k) (p:=p) (x:=((startS k).1,true)) (P:=compsL k) (compsL k).length
 have hfi:=first_ok k hF hv p ⟨hq0,hq1⟩ l (by omega) hok
 have hfe:(fiR k p l).2.2.2=0∨(fiR k p l).2.2.2=3:=loT_err l.length
 have e0:runE k l 0=startS k:=rfl
 rw[e0] at hb
 generalize csB k p ((startS k).1,true) (compsL k)=cs at*
 generalize (slT k p ((startS k).1,true) (compsL k) (compsL k).length).1=ce at*
 generalize fiA (fiR k p l)=fa at*
 generalize (fiR k p l).2.2.2=fe at*
 clear hve hsf hbl hwa hvi hst hok hpl e0
 generalize startS k=s at*
 obtain⟨s,se⟩:=s
 dsimp only at h0
 subst h0
 refine XK.r ?_
 refine XL.callKA hE rfl rfl rfl rfl trivial rfl rfl (hs) ?_
 refine XL.e ?_
 refine XK.r ?_
 refine XL.callKA hE rfl rfl rfl rfl trivial rfl rfl (hcs) ?_
 refine XL.e ?_
 refine XK.r ?_
 refine XL.callKA hE rfl rfl rfl rfl trivial rfl rfl (hfi) ?_
 refine XL.e ?_
 refine XK.c ?_ ?_<;>intro h6
 ·have h6:ce≠0∨fe≠0:=by simpa using h6
  refine XK.w ?_
  refine XK.q ?_
  refine cB ?_
  have:ce=3∨fe=3:=by omega
  simpa using this
 ·have h6:ce=0∧fe=0:=by simpa using h6
  refine XK.w ?_
  refine XK.q ?_
  refine cB ?_
  cases cs with
  |false=>rfl
  |true=>
   have:=hb rfl h6.2
   simpa using this
end
section
open Go.ChangeShapes Go.WideShapes Go.ChangeAt Go.RowKit
open Go.Eng
theorem var_heap {P:Program} {W:World} {name:String} {k:IntKind} {zs:List Int} {g:Nat} (hg:P.globalNamed name=some g) (h:Lib.TabIs P W name k zs):∃t fz,W.heap[g]?=some (.cells (zs.map fun z=>Value.int k z).toArray t fz):=by
 unfold Lib.TabIs World.var? at h
 rw[hg,Option.bind_some] at h
 split at h
 ·rename_i cs t fz hh
  injection h with h
  exact⟨t,fz,by rw[hh,h]⟩
 ·cases h
theorem tab_of {P:Program} {W:World} {name:String} {k:IntKind} {zs:List Int} {g g' t':Nat} {t e:TypeId} {n:Nat} {cs:Array Value} {fuel:Nat} {p:List MemPlace}
  (hg:P.globalNamed name=some g) (hty:(P.globals[g]?).map (·.type)=some t) (ht:P.underlying t=some (.array n e)) (he:P.underlying e=some (.int k)) (hce:P.cellsOf e=1) (hct:P.cellsOf t=n)
  (hg':P.globalNamed name=some g') (ht':(P.globals[g']?).map (·.type)=some t') (hvar:W.var? P name=some cs) (hd:DataW.trod (fun _=>()) P W 0 (fun _=>true) false fuel t' cs.toList=some (Lib.tabData k zs,p)):Lib.TabIs P W name k zs:=by
 obtain rfl:=Option.some.inj (hg.symm.trans hg')
 obtain rfl:=Option.some.inj (hty.symm.trans ht')
 unfold Lib.TabIs
 rw[hvar,←Lib.cells_of_tab ht he hce hct hd]
def powT:List Int:=(GT.getD 0 default).2.map fun v=>match v with|.int _ z=>z|_=>0
theorem gt_is:GT=[(0,powT.map fun z=>Value.int .u64 z)]:=by rfl
theorem pow_is:(Rows.laid_internal_strconv_uint64pow10:DataW Unit)=Lib.tabData .u64 powT:=by rfl
abbrev laidL:List (String×DataW Unit):=[("math/bits.deBruijn32tab",Rows.laid_math_bits_deBruijn32tab),("math/bits.deBruijn64tab",Rows.laid_math_bits_deBruijn64tab),("internal/strconv.uint64pow10",Rows.laid_internal_strconv_uint64pow10)]
theorem gl_of_laid {W:World} (h:laidMetH Tryz.prog laidL W):GlIn W (fun b=>b<W.heap.size):=by
 have h':laidMet Tryz.prog laidL W:=h
 obtain⟨ps,⟨_,_,_,_,_,_,_,_,_,_,⟨_,_,_,_,_,_,_,_,_,_,⟨g2,t2,c2,f2,p2,q2,a2,b2,e2,d2,_⟩,_⟩,_⟩,_⟩:=h'
 rw[pow_is] at d2
 have k1:Tryz.prog.globalNamed "internal/strconv.uint64pow10" =some 0:=by kernel_rfl
 have s1:=tab_of k1 (t:=314) (e:=250) (n:=20) (by kernel_rfl) (by kernel_rfl) (by kernel_rfl) (by kernel_rfl) (by kernel_rfl) a2 b2 e2 d2
 obtain⟨t1,z1,h1⟩:=var_heap k1 s1
 intro x hx
 rw[gt_is] at hx
 obtain rfl:=List.mem_singleton.1 hx
 exact⟨(Array.getElem?_eq_some_iff.1 h1).1,t1,z1,h1⟩
def litsV:DataW Unit→Array Value
 |.agg l=>(l.map fun d=>match d with|.lit (.int k z)=>Value.int k z|_=>undef).toArray
 |_=>#[]
noncomputable def laidWorld (os:Os):World:=
 let put (d:DataW Unit):Obj→Obj:=fun o=>match o with|.cells _ t fz=>.cells (litsV d) t fz|o=>o
 {World.holding Tryz.prog os ⟨#[],#[],[]⟩ with heap:=(((World.holding Tryz.prog os ⟨#[],#[],[]⟩).heap.modify 0 (put Rows.laid_internal_strconv_uint64pow10)).modify 1 (put Rows.laid_math_bits_deBruijn32tab)).modify 2 (put Rows.laid_math_bits_deBruijn64tab)}
theorem laidWorld_met (os:Os) (args:Array Value):laidMetH Tryz.prog laidL ((laidWorld os).forCall (fun _ _=>0) ⟨#[],args,[]⟩).memory:=
 show laidMet Tryz.prog laidL _ from laidMet_of_run' 3 (by kernel_rfl) (by kernel_rfl)
theorem own_topBeliefBlame:ownKnob Tryz.prog.godebug=none:=by kernel_rfl
theorem laid_topBeliefBlame:laidOutB Tryz.prog=true:=by kernel_rfl
set_option maxRecDepth 100000 in
theorem lifted_topBeliefBlame (os:Os) (started:os.Started) (H:Type) (enc:TypeId×Value→H):
  ReturnsInHanded {} Tryz.checked os 3 .any (fun w args=>(Rows.topBeliefBlameSpec.pre enc Tryz.prog Tryz.f3 Rows.topBeliefBlameRow.domain false w args∧laidMetH Tryz.prog laidL w)∧sizedMet enc Tryz.prog Tryz.f3 (OpenSpec.ofChange Rows.topBeliefBlameSpec) false w args)
   (Rows.topBeliefBlameSpec.post enc Tryz.prog Tryz.f3 false true false false):=by
 refine returnsInHanded_of_change_and (C:=Tryz.checked) (X:=fun w _=>laidMetH Tryz.prog laidL w) (fun _ _ _ hh h=>h.of_heap hh) own_topBeliefBlame started (by kernel_rfl) Tryz.func3
  (ChangeSpec.witness_at (enc:=enc) (C:=Tryz.checked) (os:=os) (X:=fun w _=>laidMetH Tryz.prog laidL w) false (laidWorld os) #[.agg #[.int .i64 0,.slice none 0 0,.slice none 0 0,.slice none 0 0,.slice none 0 0,.int .i64 0,.slice none 0 0],.int .u8 0,.int .u8 0,.slice none 0 0] 8 rfl (by kernel_rfl) (by kernel_rfl) (by kernel_rfl) (by kernel_rfl) (by kernel_rfl) (laidWorld_met os _)) ?_
 intro W base args ds gs before hval0 hW hcnd _ hL _
 have hval:∀(j:Nat) t v,Tryz.f3.params[j]?=some t→args[j]?=some v→Value.okWide Tryz.prog W .any base t v:=hval0
 have hW':=hW
 obtain⟨p,q,hA0,hV,rfl,hfz,hnd⟩:=hW
 have hA:DataW.TrodAll enc Tryz.prog W 0 (fun _=>true) true Tryz.f3.params.toList args.toList ds p:=hA0
 rw[Tryz.params3] at hA hval
 obtain⟨v0,vs0,d0,ds0,p0,q0,hargs,rfl,rfl,h0,r0⟩:=trodAll_cons hA
 obtain⟨v1,vs1,d1,ds1,p1,q1,rfl,rfl,rfl,h1,r1⟩:=trodAll_cons r0
 obtain⟨v2,vs2,d2,ds2,p2,q2,rfl,rfl,rfl,h2,r2⟩:=trodAll_cons r1
 obtain⟨v3,vs3,d3,ds3,p3,q3,rfl,rfl,rfl,h3,r3⟩:=trodAll_cons r2
 obtain⟨rfl,rfl,rfl⟩:=trodAll_nil r3
 obtain rfl:args=#[v0,v1,v2,v3]:=by cases args;simp_all
 obtain⟨rfl,rfl⟩:=trodVars_none hV
 have k0:=h0
 have lt0:∀x∈p0,x.block<W.heap.size:=by obtain⟨m,hm⟩:=k0;exact DataW.trod_lt m _ _ _ hm
 obtain⟨a0,o0,g0⟩:∃a,cK.ok a∧R W (fun b=>b<W.heap.size) Rho.none (.agg (cK.enc a)) v0:=by
  obtain⟨fs,ht,_,_⟩:=ty27_k
  exact arg_agg cK ht (hval 0 _ v0 rfl rfl) h0
 have k1:=h1
 have lt1:∀x∈p1,x.block<W.heap.size:=by obtain⟨m,hm⟩:=k1;exact DataW.trod_lt m _ _ _ hm
 obtain⟨a1,o1,g1⟩:=arg_cell cU8 (fun z=>.c (.int .u8 z)) (fun _=>rfl) (by kernel_rfl) (hval 1 _ v1 rfl rfl) h1
 have k2:=h2
 have lt2:∀x∈p2,x.block<W.heap.size:=by obtain⟨m,hm⟩:=k2;exact DataW.trod_lt m _ _ _ hm
 obtain⟨a2,o2,g2⟩:=arg_cell cU8 (fun z=>.c (.int .u8 z)) (fun _=>rfl) (by kernel_rfl) (hval 2 _ v2 rfl rfl) h2
 have k3:=h3
 have lt3:∀x∈p3,x.block<W.heap.size:=by obtain⟨m,hm⟩:=k3;exact DataW.trod_lt m _ _ _ hm
 obtain⟨a3,o3,g3⟩:=arg_cell cInts (fun l=>rowL cInt.enc cInt.sz l) (fun _=>rfl) (by kernel_rfl) (hval 3 _ v3 rfl rfl) h3
 clear hA0 hval0
 refine(lawBB a0 o0 a1 a2 o1 o2 a3).call rfl (gl_of_laid hL) (fun i x hx=>?_) fun v W' bel hv=>?_
 ·match i,hx with
  |0,hx=>injection hx with hx;subst hx;exact g0
  |1,hx=>injection hx with hx;subst hx;exact g1
  |2,hx=>injection hx with hx;subst hx;exact g2
  |3,hx=>injection hx with hx;subst hx;exact g3
 cases hv
 exact⟨_,rfl,_,_,_,[],_,[],hW',trodAll_mk1 (shut_bool (show Tryz.prog.underlying 4=some .bool from by kernel_rfl) _),(trodAll_cons_mk (Below.trod laid_topBeliefBlame (by kernel_rfl) (of_decide_eq_true (by kernel_rfl)) k0 bel lt0) (trodAll_cons_mk (Below.trod laid_topBeliefBlame (by kernel_rfl) (of_decide_eq_true (by kernel_rfl)) k1 bel lt1) (trodAll_cons_mk (Below.trod laid_topBeliefBlame (by kernel_rfl) (of_decide_eq_true (by kernel_rfl)) k2 bel lt2) (trodAll_cons_mk (Below.trod laid_topBeliefBlame (by kernel_rfl) (of_decide_eq_true (by kernel_rfl)) k3 bel lt3) trodAll_mk0)))),rfl,bel.frame _,fun h=>by cases h⟩
theorem topBeliefBlame_holds:Rows.TopBeliefBlameSaid:=
 OpenClaim.holds_of_wide 3 Tryz.f3 rfl rfl rfl rfl rfl rfl rfl ⟨rfl,rfl,rfl,rfl,rfl⟩ rfl rfl rfl rfl rfl (by kernel_rfl) Tryz.func3 (by kernel_rfl)
  (of_decide_eq_true (by kernel_rfl)) (by unfold Func.isWrapper;first|(rw[if_pos (by decide+kernel)];kernel_rfl)|(rw[if_neg (by decide+kernel)];exact⟨rfl,rfl⟩))
  (fun os started H enc _=>lifted_topBeliefBlame os started H enc)
end
end Go.Proofs.YtgpkkllbejgmlaaGreatDoor
