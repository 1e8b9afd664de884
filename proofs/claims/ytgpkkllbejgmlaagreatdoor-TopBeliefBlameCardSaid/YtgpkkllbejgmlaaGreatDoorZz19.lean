import Derived.Test.YtgpkkllbejgmlaaGreatDoorZz14
import Derived.Test.YtgpkkllbejgmlaaGreatDoorZz18
set_option linter.unusedSimpArgs false
set_option linter.unusedVariables false
set_option maxRecDepth 10000
namespace Go.Proofs.YtgpkkllbejgmlaaGreatDoor
section
open Go.Eng
def tameB (k:K):Bool:=smallQ k 6&&decide ((k.acts.length:Int)≤8)&&decide (k.days≤20)
theorem tame_ok (k:K):Does Tryz.prog 5 [kV k] (.c (.bool (tameB k))):=by
 refine Does.mk (fun _=>false) TT_ok Tryz.func5 rfl (by kernel_rfl) Tryz.ntmps5 rfl rfl fun E hT hE hN hR=>?_
 have hm:=mixO hE
 refine XK.w ?_
 refine XK.r ?_
 refine XL.callLA hE rfl rfl rfl rfl trivial rfl (smallQ_ok k 6) rfl ?_
 refine XL.e ?_
 refine XK.q ?_
 unfold tameB
 cases smallQ k 6<;>simp
noncomputable def stT (k:K) (l:List Int):Nat→(St×Int)×List Int
 |0=>(startS k,[])
 |i+1=>if(stT k l i).1.2=0 then(stepS k (stT k l i).1.1 (l.getD i default),if(stepS k (stT k l i).1.1 (l.getD i default)).2=0 then(stT k l i).2++[l.getD i default] else(stT k l i).2) else stT k l i
theorem stT_stop {k:K} {l:List Int} {i:Nat} (h:(stT k l i).1.2≠0):∀m,i≤m→stT k l m=stT k l i:=by
 intro m hm
 induction m with
 |zero=>have:i=0:=by omega
        rw[this]
 |succ m ih=>
  by_cases h1:i=m+1
  ·rw[h1]
  ·have h2:=ih (by omega)
   rw[stT,if_neg (by rw[h2];exact h),h2]
theorem stT_run {k:K} {l:List Int}:∀i,i≤l.length→(stT k l i).1=runE k l i∧∃m,m≤i∧(stT k l i).2=l.take m∧((stT k l i).1.2=0→m=i)∧((startS k).2=0→∀j,j≤m→(runE k l j).2=0)
 |0,_=>⟨rfl,0,Nat.le_refl _,rfl,fun _=>rfl,fun h j hj=>by have:j=0:=by omega
                                                          subst this;exact h⟩
 |i+1,hi=>by
  obtain⟨e,m,h1,h2,h3,h4⟩:=stT_run (k:=k) (l:=l) i (by omega)
  rw[stT]
  by_cases hz:(stT k l i).1.2=0
  ·have hm:=h3 hz
   subst hm
   rw[if_pos hz]
   have hz':(runE k l m).2=0:=by rw[←e];exact hz
   have e2:=runE_step hz'
   rw[e]
   refine⟨e2.symm,?_⟩
   dsimp only
   by_cases hs:(stepS k (runE k l m).1 (l.getD m default)).2=0
   ·rw[if_pos hs]
    refine⟨m+1,Nat.le_refl _,?_,fun _=>rfl,fun h0 j hj=>?_⟩
    ·have hml:m<l.length:=by omega
     rw[h2,List.take_add_one,List.getElem?_eq_getElem hml,List.getD_eq_getElem?_getD,List.getElem?_eq_getElem hml];rfl
    ·by_cases hjm:j=m+1
     ·subst hjm;rw[e2];exact hs
     ·exact h4 h0 j (by omega)
   ·rw[if_neg hs]
    exact⟨m,by omega,h2,fun h=>absurd h hs,h4⟩
  ·rw[if_neg hz]
   have hz':¬(runE k l i).2=0:=by rw[←e];exact hz
   refine⟨?_,m,by omega,h2,fun h=>absurd h hz,h4⟩
   rw[e]
   show _=(if _ then _ else _)
   rw[if_neg hz']
theorem runE_take {k:K} {l:List Int} {m:Nat} (hm:m≤l.length):∀j,j≤m→runE k (l.take m) j=runE k l j
 |0,_=>rfl
 |j+1,hj=>by
  have ih:=runE_take (k:=k) hm j (by omega)
  show(if _ then _ else _)=(if _ then _ else _)
  have e:(l.take m).getD j default=l.getD j default:=by simp[List.getD,show j<m by omega]
  rw[ih,e]
theorem stT_facts {k:K} {l:List Int} (h0:(startS k).2=0):(stT k l l.length).2.length≤l.length∧∀j,j≤(stT k l l.length).2.length→(runE k (stT k l l.length).2 j).2=0:=by
 obtain⟨-,m,h1,h2,-,h4⟩:=stT_run (k:=k) (l:=l) l.length (Nat.le_refl _)
 rw[h2]
 have hl:(l.take m).length=m:=by rw[List.length_take];omega
 rw[hl]
 refine⟨h1,fun j hj=>?_⟩
 rw[runE_take h1 j hj]
 exact h4 h0 j hj
theorem stT_len (k:K) (l:List Int):∀i,(stT k l i).2.length≤i
 |0=>Nat.le_refl _
 |i+1=>by
  have ih:=stT_len k l i
  rw[stT]
  split
  ·show(if _ then _ else _:List Int).length≤_
   split
   ·simp;omega
   ·omega
  ·omega
theorem intsO_snoc (L:List Int) (x:Int) (h:Nat→List AV) (hx:h 0=iC x):∀j,j<L.length+1→iC ((L++[x]).getD j default)=catF L.length (fun i=>iC (L.getD i default)) h j:=by
 intro j hj
 unfold catF
 by_cases h1:j<L.length
 ·have:Nat.blt j L.length=true:=by simpa using h1
  rw[this,cond_true]
  simp[List.getD,List.getElem?_append_left h1]
 ·have:Nat.blt j L.length=false:=by
   cases hb:Nat.blt j L.length with
   |false=>rfl
   |true=>simp at hb;exact absurd hb h1
  have e:j=L.length:=by omega
  rw[this,cond_false,e,Nat.sub_self,hx]
  simp[List.getD]
def iO (s:Nat) (L:List Int):Ob:=.vec 3 1 s L.length (fun i=>iC (L.getD i default))
theorem steps_ok (k:K) (hk:kW k) (l:List Int) (hl:l.length≤1000000):Does Tryz.prog 7 [kV k,intsV l] (intsV (stT k l l.length).2):=by
 have hst:=startS_ok k hk
 have e0:stT k l 0=(startS k,[]):=rfl
 refine Does.mk (fun _=>false) TT_ok Tryz.func7 rfl (by kernel_rfl) Tryz.ntmps7 rfl rfl fun E hT hE hN hR=>?_
 have hm:=mixO hE
 refine XK.w ?_
 refine XK.r ?_
 refine XL.callKA hE rfl rfl rfl rfl trivial rfl rfl (hst) ?_
 refine XL.e ?_
 refine XK.w ?_
 refine XK.loop (ι:=Nat) (fun i=>ST.of [(1,intsV l),(2,.ptr 2 0),(5,.ptr 49 0),(6,.c (.int .i64 (stT k l i).1.2)),(7,.vec 900 0),(8,.c (.int .i64 i))]
   [(2,.cells 27 (kC k)),(49,.cells 44 (stC (stT k l i).1.1)),(900,iO 0 (stT k l i).2)] 1000 44 (fun _=>false))
  (fun i=>i≤l.length) (fun i=>l.length-i) 0 (Nat.zero_le _)
  (Weak.trans (Weak.ghost (j:=7) (k:=900) (e:=3) (sz:=1) (f:=fun _=>[]) rfl rfl) (Weak.of hN rfl rfl rfl (by rw[e0];(repeat' (first|exact rfl|exact AvIs.refl _|exact trivial|exact fun _ _=>rfl|exact fun _ _=>⟨rfl,AvIs.refl _⟩|exact cI (by omega)|refine⟨?_,?_⟩))) (by rw[e0];(repeat' (first|exact rfl|exact AvIs.refl _|exact trivial|exact fun _ _=>rfl|exact fun _ _=>⟨rfl,AvIs.refl _⟩|exact cI (by omega)|exact(fun j hj=>absurd hj (Nat.not_lt_zero _))|refine⟨?_,?_⟩))))) fun i hi=>?_
 have hlen:=stT_len k l i
 refine XK.c ?_ ?_<;>intro h1
 ·simp only[Bool.and_eq_true,decide_eq_true_eq,beq_iff_eq] at h1
  obtain⟨h1,h2⟩:=h1
  have hlt:i<l.length:=by omega
  have fx:l.getD (i:Int).toNat default=l.getD i default:=rfl
  have hn:stT k l (i+1)=(stepS k (stT k l i).1.1 (l.getD i default),if(stepS k (stT k l i).1.1 (l.getD i default)).2=0 then(stT k l i).2++[l.getD i default] else(stT k l i).2):=by rw[stT,if_pos h2]
  have hs:=stepS_ok k hk (stT k l i).1.1 (l.getD i default)
  have hq:∀u,u=stepS k (stT k l i).1.1 (l.getD i default)→Does Tryz.prog 16 [kV k,stV (stT k l i).1.1,.c (.int .i64 (l.getD i default))] (sr u):=fun u hu=>hu▸hs
  generalize hu:stepS k (stT k l i).1.1 (l.getD i default)=u at*
  have hs:=hq u rfl
  clear hq
  generalize stT k l i=s at*
  obtain⟨⟨s0,e⟩,out⟩:=s
  dsimp only at h2 hs hlen hn
  subst h2
  refine XK.s ?_
  rw[fx]
  refine XD.callKA hE rfl rfl rfl rfl trivial rfl rfl (hs) ?_
  refine XD.e ?_
  refine XK.c ?_ ?_<;>intro h3<;>try simp at h3
  ·rw[if_pos h3] at hn
   refine XK.w ?_
   rw[fx]
   refine XK.inv ⟨i+1,hlt,?_,by omega⟩
   rw[hn]
   refine Weak.trans (Weak.stamp (k:=900) (t:=0) hN rfl rfl) (Weak.of hN rfl rfl rfl frV ⟨frI,frI,⟨rfl,rfl,rfl⟩,by simp,intsO_snoc _ _ _ rfl⟩)
  ·rw[if_neg h3] at hn
   refine XK.w ?_
   refine XK.inv ⟨i+1,hlt,?_,by omega⟩
   rw[hn]
   exact(Weak.of hN rfl rfl rfl frV frI)
 ·have h1:i=l.length∨(stT k l i).1.2≠0:=by
   simp only[Bool.and_eq_false_iff,decide_eq_false_iff_not,beq_eq_false_iff_ne] at h1
   omega
  have hfin:stT k l l.length=stT k l i:=by
   rcases h1 with h1|h1
   ·rw[h1]
   ·exact stT_stop h1 _ hi
  rw[hfin]
  generalize stT k l i=s at*
  refine XK.weak (Weak.trans (Weak.frozen (k:=900) hN rfl rfl) (Weak.of (L:=[(7,intsV s.2)]) (O:=[]) (nx:=2000) (nt:=44) (md:=fun _=>false) hN rfl rfl rfl frI trivial)) ?_
  refine XK.w ?_
  refine XK.q ?_
  rfl
end
section
open Go.Eng
instance:Inhabited St:=⟨zS⟩
def stsL (l:List St):AV:=rowL stC 4 l
def belV (p:Int) (l:List St):AV:=.agg [.c (.int .i64 p),stsL l]
noncomputable def bvalB (k:K) (p:Int) (l:List St):Bool:=if(decide (p<0)||decide (k.parties≤p)||(l.length:Int)==0||decide (300<(l.length:Int)))=true then false else l.all (validS k)
theorem all_stop {α:Type} [Inhabited α] {l:List α} {p:α→Bool} {i:Nat} (hi:i<l.length) (h:p (l.getD i default)=false):l.all p=false:=by
 rw[List.all_eq_false]
 refine⟨l[i],List.getElem_mem hi,?_⟩
 rw[List.getD_eq_getElem?_getD,List.getElem?_eq_getElem hi] at h
 simp only[Option.getD_some] at h
 rw[h];simp
theorem all_full {α:Type} [Inhabited α] {l:List α} {p:α→Bool} (h:∀i,i<l.length→p (l.getD i default)=true):l.all p=true:=by
 rw[List.all_eq_true]
 intro x hx
 obtain⟨i,hi,rfl⟩:=List.getElem_of_mem hx
 have:=h i hi
 rwa[List.getD_eq_getElem?_getD,List.getElem?_eq_getElem hi] at this
theorem bval_ok (k:K) (hk:kW k) (p:Int) (l:List St):Does Tryz.prog 20 [kV k,belV p l] (.c (.bool (bvalB k p l))):=by
 refine Does.mk (fun _=>false) TT_ok Tryz.func20 rfl (by kernel_rfl) Tryz.ntmps20 rfl rfl fun E hT hE hN hR=>?_
 have hm:=mixO hE
 refine XK.c ?_ ?_<;>intro h1
 ·refine XK.w ?_
  refine XK.q ?_
  rw[bvalB,if_pos h1]
 ·rw[bvalB,if_neg (by rw[h1];simp)]
  refine XK.w ?_
  refine XK.loop (ι:=Nat) (fun i=>ST.of [(2,.ptr 2 0),(30,stsL l),(31,.c (.int .i64 l.length)),(32,.c (.int .i64 i))] [(2,.cells 27 (kC k))] 1000 41 (fun _=>false))
   (fun i=>i≤l.length∧∀j,j<i→validS k (l.getD j default)=true) (fun i=>l.length-i) 0 ⟨Nat.zero_le _,fun j hj=>absurd hj (Nat.not_lt_zero _)⟩ (Weak.of hN rfl rfl rfl frI frI) fun i hi=>?_
  obtain⟨hi1,hi2⟩:=hi
  refine XK.c ?_ ?_<;>intro hlt<;>try simp at hlt
  ·have hlt:i<l.length:=by omega
   have fx:l.getD (i:Int).toNat default=l.getD i default:=rfl
   have hv:=validS_ok k hk (l.getD i default)
   generalize hb:validS k (l.getD i default)=b at hv
   refine XK.w ?_
   rw[fx]
   refine XK.r ?_
   refine XL.callLA hE rfl rfl rfl rfl trivial rfl (hv) rfl ?_
   refine XL.e ?_
   refine XK.c ?_ ?_<;>intro h2<;>try simp at h2
   ·refine XK.w ?_
    refine XK.q ?_
    rw[all_stop hlt (by rw[hb];exact h2)]
   ·refine XK.w ?_
    refine XK.inv ⟨i+1,⟨hlt,fun j hj=>?_⟩,(Weak.of hN rfl rfl rfl frI frI),by omega⟩
    by_cases h:j=i
    ·subst h;rw[hb];exact h2
    ·exact hi2 j (by omega)
  ·refine XK.w ?_
   refine XK.q ?_
   rw[all_full fun j hj=>hi2 j (by omega)]
def meanI (s:Int):Int:=if s=3∨s=5 then 1 else if s=4 then 3 else if s=0∨s=1∨s=2 then 2 else 0
theorem mean_ok (s:Int):Does Tryz.prog 33 [.c (.int .i64 s)] (.c (.int .i64 (meanI s))):=by
 refine Does.mk (fun _=>false) TT_ok Tryz.func33 rfl (by kernel_rfl) Tryz.ntmps33 rfl rfl fun E hT hE hN hR=>?_
 have hm:=mixO hE
 iterate 9 (try any_goals (refine XK.c ?_ ?_<;>intro h<;>try simp at h))
 all_goals
  refine XK.w ?_
  refine XK.q ?_
  refine cI ?_
  unfold meanI
  split<;>first|rfl|omega|(split<;>first|rfl|omega|(split<;>first|rfl|omega))
def agrB (v:St→Int) (l:List St):Int:=if ∀i,i<l.length→v (l.getD i default)=v (l.getD 0 default) then v (l.getD 0 default) else 0
theorem agreedB_ok (k:K) (p:Int) (l:List St) (hl:0<l.length) (v:St→Int) (hv:∀i,i<l.length→Does Tryz.prog 22 [stV (l.getD i default),.rptr (kC k),.rptr [.c (.int .i64 p)]] (.c (.int .i64 (v (l.getD i default))))):
  Does Tryz.prog 21 [stsL l,.fn (.func 22) [] [.rptr (kC k),.rptr [.c (.int .i64 p)]]] (.c (.int .i64 (agrB v l))):=by
 have f0:l.getD (0:Int).toNat default=l.getD 0 default:=rfl
 have h0:=hv 0 hl
 refine Does.mk (fun _=>false) TT_ok Tryz.func21 rfl (by kernel_rfl) Tryz.ntmps21 rfl rfl fun E hT hE hN hR=>?_
 have hm:=mixO hE
 refine XK.fact (Sat.rs_len (j:=0) rfl) fun hlen=>?_
 have hm':l.length≤9223372036854775807:=hlen.1
 refine XK.w ?_
 refine XK.r ?_
 rw[f0]
 refine XL.callLA hE rfl rfl rfl rfl trivial rfl (h0) rfl ?_
 refine XL.e ?_
 refine XK.w ?_
 refine XK.loop (ι:=Nat) (fun i=>ST.of [(1,.fn (.func 22) [] [.rptr (kC k),.rptr [.c (.int .i64 p)]]),(5,.c (.int .i64 (v (l.getD 0 default)))),(14,.rs 4 (l.length-1) (fun i=>stC (l.getD (i+1) default))),(15,.c (.int .i64 (l.length-1:Nat))),(16,.c (.int .i64 i))] [] 1000 27 (fun _=>false))
  (fun i=>i≤l.length-1∧∀j,j<i+1→v (l.getD j default)=v (l.getD 0 default)) (fun i=>l.length-i) 0 ⟨Nat.zero_le _,fun j hj=>by rw[show j=0 by omega]⟩
  (Weak.of hN rfl rfl rfl frI frI) fun i hi=>?_
 obtain⟨hi1,hi2⟩:=hi
 refine XK.c ?_ ?_<;>intro hlt<;>try simp at hlt
 ·have hlt:i+1<l.length:=by omega
  have hvi:=hv (i+1) hlt
  have fx:l.getD ((i:Int).toNat+1) default=l.getD (i+1) default:=rfl
  generalize hb:v (l.getD (i+1) default)=b at hvi
  refine XK.w ?_
  rw[fx]
  refine XK.r ?_
  refine XL.callLA hE rfl rfl rfl rfl trivial rfl (hvi) rfl ?_
  refine XL.e ?_
  refine XK.c ?_ ?_<;>intro h2<;>try simp at h2
  ·refine XK.w ?_
   refine XK.q ?_
   unfold agrB
   rw[if_neg (fun h=>h2 (by rw[←hb];exact h (i+1) hlt))]
  ·refine XK.w ?_
   refine XK.inv ⟨i+1,⟨by omega,fun j hj=>?_⟩,(Weak.of hN rfl rfl rfl frI frI),by omega⟩
   by_cases h:j=i+1
   ·subst h;rw[hb];exact h2
   ·exact hi2 j (by omega)
 ·refine XK.w ?_
  refine XK.q ?_
  unfold agrB
  rw[if_pos fun j hj=>hi2 j (by omega)]
noncomputable def brV (k:K) (p:Int) (s:St):Int:=if breachS k s p=true then 3 else 2
theorem blames1_ok (k:K) (hk:kW k) (p:Int) (s:St):Does Tryz.prog 22 [stV s,.rptr (kC k),.rptr [.c (.int .i64 p)]] (.c (.int .i64 (brV k p s))):=by
 have hb:=breachS_ok k hk s p
 unfold brV
 generalize breachS k s p=b at*
 refine Does.mk (fun _=>false) TT_ok Tryz.func22 rfl (by kernel_rfl) Tryz.ntmps22 rfl rfl fun E hT hE hN hR=>?_
 have hm:=mixO hE
 refine XK.w ?_
 refine XK.r ?_
 refine XL.callLA hE rfl rfl rfl rfl trivial rfl (hb) rfl ?_
 refine XL.e ?_
 refine XK.c ?_ ?_<;>intro h<;>try simp at h
 ·subst h
  refine XK.w ?_
  refine XK.q ?_
  rfl
 ·subst h
  refine XK.w ?_
  refine XK.q ?_
  rfl
noncomputable def blamesR (k:K) (bp:Int) (l:List St) (p:Int):Int:=if(!bvalB k bp l||decide (p<0)||decide (k.parties≤p))=true then 0 else agrB (brV k p) l
theorem blames_ok (k:K) (hk:kW k) (bp:Int) (l:List St) (p:Int):Does Tryz.prog 10 [kV k,belV bp l,.c (.int .i64 p)] (.c (.int .i64 (blamesR k bp l p))):=by
 have hv:=bval_ok k hk bp l
 have ha:=fun hl=>agreedB_ok k p l hl (brV k p) (fun i _=>blames1_ok k hk p _)
 refine Does.mk (fun _=>false) TT_ok Tryz.func10 rfl (by kernel_rfl) Tryz.ntmps10 rfl rfl fun E hT hE hN hR=>?_
 have hm:=mixO hE
 refine XK.w ?_
 refine XK.r ?_
 refine XL.callLA hE rfl rfl rfl rfl trivial rfl (hv) rfl ?_
 refine XL.e ?_
 refine XK.c ?_ ?_<;>intro h1
 ·refine XK.w ?_
  refine XK.q ?_
  rw[blamesR,if_pos h1]
 ·rw[blamesR,if_neg (by rw[h1];simp)]
  have hbv:bvalB k bp l=true:=by
   simp only[Bool.or_eq_false_iff,Bool.not_eq_false'] at h1
   exact h1.1.1
  have hl:0<l.length:=by
   unfold bvalB at hbv
   split at hbv
   ·cases hbv
   ·rename_i h2
    simp only[Bool.or_eq_true,beq_iff_eq,not_or] at h2
    have:=h2.1.2
    omega
  refine XK.weak (Weak.trans (Weak.frozenC (k:=3) hN rfl rfl rfl) (Weak.frozenC (k:=5) hN rfl rfl rfl)) ?_
  refine XK.w ?_
  refine XK.r ?_
  refine XL.callLA hE rfl rfl rfl rfl trivial rfl (ha hl) rfl ?_
  refine XL.e ?_
  refine XK.q ?_
  rfl
theorem blames_all {k:K} {bp:Int} {l:List St} {p:Int} (h:blamesR k bp l p=3):∀s∈l,breachS k s p=true:=by
 unfold blamesR at h
 split at h
 ·cases h
 ·unfold agrB at h
  split at h
  ·rename_i h2
   intro s hs
   obtain⟨i,hi,rfl⟩:=List.getElem_of_mem hs
   have h3:=h2 i hi
   rw[h,List.getD_eq_getElem?_getD,List.getElem?_eq_getElem hi] at h3
   simp only[Option.getD_some] at h3
   unfold brV at h3
   split at h3
   ·assumption
   ·cases h3
  ·cases h
def vdV (c:Int) (s:St):Int:=meanI (s.marks.getD c.toNat default).status
theorem verdict1_ok (c:Int) (s:St) (h:0≤c∧c<s.marks.length):Does Tryz.prog 32 [stV s,.rptr [.c (.int .i64 c)]] (.c (.int .i64 (vdV c s))):=by
 obtain⟨h1,h2⟩:=h
 refine Does.mk (fun _=>false) TT_ok Tryz.func32 rfl (by kernel_rfl) Tryz.ntmps32 rfl rfl fun E hT hE hN hR=>?_
 have hm:=mixO hE
 refine XK.w ?_
 refine XK.r ?_
 refine XL.callLA hE rfl rfl rfl rfl trivial rfl (mean_ok (s.marks.getD c.toNat default).status) rfl ?_
 refine XL.e ?_
 refine XK.q ?_
 rfl
theorem agreedV_ok (c:Int) (l:List St) (hl:0<l.length) (v:St→Int) (hv:∀i,i<l.length→Does Tryz.prog 32 [stV (l.getD i default),.rptr [.c (.int .i64 c)]] (.c (.int .i64 (v (l.getD i default))))):
  Does Tryz.prog 21 [stsL l,.fn (.func 32) [] [.rptr [.c (.int .i64 c)]]] (.c (.int .i64 (agrB v l))):=by
 have f0:l.getD (0:Int).toNat default=l.getD 0 default:=rfl
 have h0:=hv 0 hl
 refine Does.mk (fun _=>false) TT_ok Tryz.func21 rfl (by kernel_rfl) Tryz.ntmps21 rfl rfl fun E hT hE hN hR=>?_
 have hm:=mixO hE
 refine XK.fact (Sat.rs_len (j:=0) rfl) fun hlen=>?_
 have hm':l.length≤9223372036854775807:=hlen.1
 refine XK.w ?_
 refine XK.r ?_
 rw[f0]
 refine XL.callLA hE rfl rfl rfl rfl trivial rfl (h0) rfl ?_
 refine XL.e ?_
 refine XK.w ?_
 refine XK.loop (ι:=Nat) (fun i=>ST.of [(1,.fn (.func 32) [] [.rptr [.c (.int .i64 c)]]),(5,.c (.int .i64 (v (l.getD 0 default)))),(14,.rs 4 (l.length-1) (fun i=>stC (l.getD (i+1) default))),(15,.c (.int .i64 (l.length-1:Nat))),(16,.c (.int .i64 i))] [] 1000 27 (fun _=>false))
  (fun i=>i≤l.length-1∧∀j,j<i+1→v (l.getD j default)=v (l.getD 0 default)) (fun i=>l.length-i) 0 ⟨Nat.zero_le _,fun j hj=>by rw[show j=0 by omega]⟩
  (Weak.of hN rfl rfl rfl frI frI) fun i hi=>?_
 obtain⟨hi1,hi2⟩:=hi
 refine XK.c ?_ ?_<;>intro hlt<;>try simp at hlt
 ·have hlt:i+1<l.length:=by omega
  have hvi:=hv (i+1) hlt
  have fx:l.getD ((i:Int).toNat+1) default=l.getD (i+1) default:=rfl
  generalize hb:v (l.getD (i+1) default)=b at hvi
  refine XK.w ?_
  rw[fx]
  refine XK.r ?_
  refine XL.callLA hE rfl rfl rfl rfl trivial rfl (hvi) rfl ?_
  refine XL.e ?_
  refine XK.c ?_ ?_<;>intro h2<;>try simp at h2
  ·refine XK.w ?_
   refine XK.q ?_
   unfold agrB
   rw[if_neg (fun h=>h2 (by rw[←hb];exact h (i+1) hlt))]
  ·refine XK.w ?_
   refine XK.inv ⟨i+1,⟨by omega,fun j hj=>?_⟩,(Weak.of hN rfl rfl rfl frI frI),by omega⟩
   by_cases h:j=i+1
   ·subst h;rw[hb];exact h2
   ·exact hi2 j (by omega)
 ·refine XK.w ?_
  refine XK.q ?_
  unfold agrB
  rw[if_pos fun j hj=>hi2 j (by omega)]
noncomputable def verdR (k:K) (bp:Int) (l:List St) (c:Int):Int:=if(!bvalB k bp l||decide (c<0)||decide ((k.clauses.length:Int)≤c))=true then 0 else agrB (vdV c) l
theorem verdict_ok (k:K) (hk:kW k) (bp:Int) (l:List St) (c:Int):Does Tryz.prog 15 [kV k,belV bp l,.c (.int .i64 c)] (.c (.int .i64 (verdR k bp l c))):=by
 have hv:=bval_ok k hk bp l
 refine Does.mk (fun _=>false) TT_ok Tryz.func15 rfl (by kernel_rfl) Tryz.ntmps15 rfl rfl fun E hT hE hN hR=>?_
 have hm:=mixO hE
 refine XK.w ?_
 refine XK.r ?_
 refine XL.callLA hE rfl rfl rfl rfl trivial rfl (hv) rfl ?_
 refine XL.e ?_
 refine XK.c ?_ ?_<;>intro h1
 ·refine XK.w ?_
  refine XK.q ?_
  rw[verdR,if_pos h1]
 ·rw[verdR,if_neg (by rw[h1];simp)]
  simp only[Bool.or_eq_false_iff,Bool.not_eq_false',decide_eq_false_iff_not] at h1
  obtain⟨⟨hbv,h2⟩,h3⟩:=h1
  unfold bvalB at hbv
  split at hbv
  ·cases hbv
  ·rename_i h4
   simp only[Bool.or_eq_true,beq_iff_eq,not_or] at h4
   have h4:=h4.1.2
   have hl:0<l.length:=by omega
   have ha:=agreedV_ok c l hl (vdV c) fun i hi=>verdict1_ok c _ (by
    rw[List.all_eq_true] at hbv
    have:=hbv _ (List.getElem_mem hi)
    rw[List.getD_eq_getElem?_getD,List.getElem?_eq_getElem hi,Option.getD_some]
    have:=(validS_len this).2.2.2.1
    omega)
   refine XK.weak (Weak.frozenC (k:=5) hN rfl rfl rfl) ?_
   refine XK.w ?_
   refine XK.r ?_
   refine XL.callLA hE rfl rfl rfl rfl trivial rfl (ha) rfl ?_
   refine XL.e ?_
   refine XK.q ?_
   rfl
end
section
open Go.Eng
structure Rk where
 rk:Nat→Int
 op:Nat→Int
 it:List Nat
def Rk.settle (s:Rk) (i:Nat) (r:Int):Rk:={s with rk:=fun j=>if j=i then r else s.rk j,it:=s.it++[i]}
def Rk.less (s:Rk) (i:Nat):Rk:={s with op:=fun j=>if j=i then s.op j-1 else s.op j}
section
variable (n:Nat) (own lost:Nat→Bool) (mv:Nat→List Nat)
def backR (s:Rk) (to frm:Nat):Rk:=if s.rk frm=-1∧(own frm=false∨(s.less frm).op frm=0) then(s.less frm).settle frm (s.rk to+1) else s.less frm
def befL (t:Nat):Nat→List Nat
 |0=>[]
 |i+1=>befL t i++List.replicate ((mv i).count t) i
def procR (to:Nat) (s:Rk):List Nat→Rk
 |[]=>s
 |f::l=>procR to (backR own s to f) l
def rkT (s:Rk):Nat→Rk
 |0=>s
 |m+1=>if m<(rkT s m).it.length then procR own ((rkT s m).it.getD m 0) (rkT s m) (befL mv ((rkT s m).it.getD m 0) n) else rkT s m
structure ClosedN (W:Nat→Prop):Prop where
 lt:∀i,W i→i<n
 fine:∀i,W i→lost i=false
 mine:∀i,W i→own i=true→∃t∈mv i,W t
 other:∀i,W i→own i=false→∀t∈mv i,W t
structure RInv (s:Rk) (pr E:List Nat):Prop where
 nodup:s.it.Nodup
 mem:∀i,i∈s.it↔i<n∧s.rk i≠-1
 ge:∀i,-1≤s.rk i
 op:∀i,i<n→s.op i=((mv i).length:Int)-(E.count i:Nat)
 gone:∀i,i<n→lost i=true→i∈s.it
 other:∀i,i<n→own i=false→0<E.count i→i∈s.it
 ownz:∀i,i<n→own i=true→E.count i=(mv i).length→i∈s.it
 bad:∀W,ClosedN n own lost mv W→∀i∈s.it,¬W i
 sub:∀t∈pr,t∈s.it
end
section
variable {n:Nat} {own lost:Nat→Bool} {mv:Nat→List Nat} {s:Rk} {pr E:List Nat}
theorem RInv.back (h:RInv n own lost mv s pr E) {to f:Nat} (hto:to∈s.it) (hf:f<n) (hc:(E++[f]).count f≤(mv f).countP (fun t=>decide (t∈pr))):RInv n own lost mv (backR own s to f) pr (E++[f]):=by
 have hcnt (i:Nat):(E++[f]).count i=E.count i+if i=f then 1 else 0:=by
  rw[List.count_append,List.count_singleton]
  by_cases e:i=f
  ·subst e;simp
  ·rw[if_neg e,if_neg (by simpa using fun q=>e q.symm)]
 have hop (i:Nat) (hi:i<n):(s.less f).op i=((mv i).length:Int)-((E++[f]).count i:Nat):=by
  show(if i=f then _ else _)=_
  have:=h.op i hi
  rw[hcnt]
  split<;>omega
 have hle:=List.countP_le_length (p:=fun t=>decide (t∈pr)) (l:=mv f)
 unfold backR
 split
 ·rename_i hcond
  obtain⟨c1,c2⟩:=hcond
  have hnot:f∉s.it:=fun q=>((h.mem f).1 q).2 c1
  have hbad:∀W,ClosedN n own lost mv W→¬W f:=fun W hW hWf=>by
   rw[hop f hf] at c2
   rcases c2 with c2|c2
   ·have:0<(mv f).countP (fun t=>decide (t∈pr)):=by have:=hcnt f;rw[if_pos rfl] at this;omega
    obtain⟨t,ht,htp⟩:=List.countP_pos_iff.1 this
    exact h.bad W hW t (h.sub t (by simpa using htp)) (hW.other f hWf c2 t ht)
   ·cases ho:own f with
    |false=>
     have:0<(mv f).countP (fun t=>decide (t∈pr)):=by have:=hcnt f;rw[if_pos rfl] at this;omega
     obtain⟨t,ht,htp⟩:=List.countP_pos_iff.1 this
     exact h.bad W hW t (h.sub t (by simpa using htp)) (hW.other f hWf ho t ht)
    |true=>
     obtain⟨t,ht,hWt⟩:=hW.mine f hWf ho
     have:(mv f).countP (fun t=>decide (t∈pr))=(mv f).length:=by omega
     exact h.bad W hW t (h.sub t (by simpa using List.countP_eq_length.1 this t ht)) hWt
  have hmem (i:Nat):i∈((s.less f).settle f (s.rk to+1)).it↔i∈s.it∨i=f:=by
   show i∈s.it++[f]↔_
   simp
  refine⟨?_,fun i=>?_,fun i=>?_,hop,fun i hi hl=>(hmem i).2 (.inl (h.gone i hi hl)),fun i hi ho hp=>(hmem i).2 ?_,fun i hi ho hp=>(hmem i).2 ?_,fun W hW i hi=>?_,fun t ht=>(hmem t).2 (.inl (h.sub t ht))⟩
  ·show(s.it++[f]).Nodup
   rw[List.nodup_append]
   exact⟨h.nodup,by simp,fun a ha b hb e=>by rw[List.mem_singleton.1 hb] at e;exact hnot (e▸ha)⟩
  ·rw[hmem,h.mem]
   show _↔i<n∧(if i=f then s.rk to+1 else s.rk i)≠-1
   have h0:=h.ge to
   have h1:=((h.mem to).1 hto).2
   by_cases e:i=f
   ·rw[if_pos e]
    constructor
    ·intro _;exact⟨by omega,by omega⟩
    ·intro _;exact .inr e
   ·rw[if_neg e]
    constructor
    ·rintro (q|q)
     ·exact q
     ·exact absurd q e
    ·exact fun q=>.inl q
  ·show -1≤(if i=f then s.rk to+1 else s.rk i)
   have:=h.ge to
   have:=h.ge i
   split<;>omega
  ·by_cases e:i=f
   ·exact .inr e
   ·rw[hcnt,if_neg e] at hp
    exact .inl (h.other i hi ho (by omega))
  ·by_cases e:i=f
   ·exact .inr e
   ·rw[hcnt,if_neg e] at hp
    exact .inl (h.ownz i hi ho (by omega))
  ·rcases (hmem i).1 hi with q|q
   ·exact h.bad W hW i q
   ·rw[q];exact hbad W hW
 ·rename_i hcond
  refine⟨h.nodup,h.mem,h.ge,hop,h.gone,fun i hi ho hp=>?_,fun i hi ho hp=>?_,h.bad,h.sub⟩
  ·by_cases e:i=f
   ·subst e
    exact(h.mem i).2 ⟨hi,fun q=>hcond ⟨q,.inl ho⟩⟩
   ·rw[hcnt,if_neg e] at hp
    exact h.other i hi ho (by omega)
  ·by_cases e:i=f
   ·subst e
    exact(h.mem i).2 ⟨hi,fun q=>hcond ⟨q,.inr (by rw[hop i hi,hp];omega)⟩⟩
   ·rw[hcnt,if_neg e] at hp
    exact h.ownz i hi ho (by omega)
theorem back_it (own:Nat→Bool) (s:Rk) (to f:Nat):∃l,(backR own s to f).it=s.it++l:=by
 unfold backR
 split
 ·exact⟨[f],rfl⟩
 ·exact⟨[],(List.append_nil _).symm⟩
theorem proc_it (own:Nat→Bool) (to:Nat):∀(fs:List Nat) (s:Rk),∃l,(procR own to s fs).it=s.it++l
 |[],s=>⟨[],(List.append_nil _).symm⟩
 |f::fs,s=>by
  obtain⟨l,hl⟩:=back_it own s to f
  obtain⟨l',hl'⟩:=proc_it own to fs (backR own s to f)
  exact⟨l++l',by rw[procR,hl',hl,List.append_assoc]⟩
theorem RInv.proc {to:Nat}:∀(fs:List Nat) {s:Rk} {E:List Nat},RInv n own lost mv s pr E→to∈s.it→(∀f∈fs,f<n)→(∀f,(E++fs).count f≤(mv f).countP (fun t=>decide (t∈pr)))→RInv n own lost mv (procR own to s fs) pr (E++fs)
 |[],_,E,h,_,_,_=>by rw[List.append_nil];exact h
 |f::fs,s,E,h,hto,hlt,hc=>by
  have e:E++f::fs=(E++[f])++fs:=by simp
  rw[e] at hc ⊢
  obtain⟨l,hl⟩:=back_it own s to f
  refine RInv.proc fs (h.back hto (hlt f List.mem_cons_self) ?_) (by rw[hl];exact List.mem_append_left _ hto) (fun g hg=>hlt g (List.mem_cons_of_mem _ hg)) hc
  have:=hc f
  rw[List.count_append] at this
  omega
end
end
section
open Go.Eng
section
variable {n:Nat} {own lost:Nat→Bool} {mv:Nat→List Nat} {s:Rk}
theorem befL_lt (t:Nat):∀N,∀f∈befL mv t N,f<N
 |0,f,h=>by cases h
 |N+1,f,h=>by
  rcases List.mem_append.1 h with h|h
  ·have:=befL_lt t N f h;omega
  ·have:=(List.mem_replicate.1 h).2;omega
theorem befL_count (t:Nat):∀N i,i<N→(befL mv t N).count i=(mv i).count t
 |0,_,h=>absurd h (Nat.not_lt_zero _)
 |N+1,i,h=>by
  rw[befL,List.count_append,List.count_replicate]
  by_cases e:i=N
  ·subst e
   rw[List.count_eq_zero.2 fun q=>absurd (befL_lt t i i q) (Nat.lt_irrefl _)]
   simp
  ·rw[befL_count t N i (by omega),if_neg (by simpa using fun q=>e q.symm),Nat.add_zero]
theorem countP_snoc {l:List Nat} {t:Nat} (h:t∉l):∀m:List Nat,m.countP (fun x=>decide (x∈l++[t]))=m.countP (fun x=>decide (x∈l))+m.count t
 |[]=>rfl
 |x::m=>by
  rw[List.countP_cons,List.countP_cons,List.count_cons,countP_snoc h m]
  by_cases e:x=t
  ·subst e
   simp[h]
   omega
  ·simp[e]
   omega
structure RAll (n:Nat) (own lost:Nat→Bool) (mv:Nat→List Nat) (s:Rk) (m:Nat) (E:List Nat):Prop where
 inv:RInv n own lost mv s (s.it.take m) E
 cnt:∀i,i<n→E.count i=(mv i).countP (fun t=>decide (t∈s.it.take m))
 lt:∀f∈E,f<n
 le:m≤s.it.length
theorem RAll.next {m:Nat} {E:List Nat} (h:RAll n own lost mv s m E) (hm:m<s.it.length):RAll n own lost mv (procR own (s.it.getD m 0) s (befL mv (s.it.getD m 0) n)) (m+1) (E++befL mv (s.it.getD m 0) n):=by
 have e1:s.it.getD m 0=s.it[m]:=by rw[List.getD_eq_getElem?_getD,List.getElem?_eq_getElem hm];rfl
 have hto:s.it.getD m 0∈s.it:=by rw[e1];exact List.getElem_mem hm
 have htk:s.it.take (m+1)=s.it.take m++[s.it.getD m 0]:=by rw[e1,List.take_add_one,List.getElem?_eq_getElem hm];rfl
 have hnot:s.it.getD m 0∉s.it.take m:=by
  have hnd:=h.inv.nodup
  rw[←List.take_append_drop (m+1) s.it,htk,List.nodup_append] at hnd
  have:=(List.nodup_append.1 hnd.1).2.2
  exact fun q=>this _ q _ (List.mem_singleton.2 rfl) rfl
 generalize s.it.getD m 0=to at*
 have hc:∀i,i<n→(E++befL mv to n).count i=(mv i).countP (fun t=>decide (t∈s.it.take (m+1))):=fun i hi=>by
  rw[List.count_append,h.cnt i hi,befL_count to n i hi,htk,countP_snoc hnot]
 have h1:RInv n own lost mv s (s.it.take (m+1)) E:={h.inv with sub:=fun t ht=>List.mem_of_mem_take ht}
 have hlt:∀f∈E++befL mv to n,f<n:=fun f hf=>by
  rcases List.mem_append.1 hf with q|q
  ·exact h.lt f q
  ·exact befL_lt to n f q
 have h2:=RInv.proc (befL mv to n) h1 hto (befL_lt to n) (fun f=>by
  by_cases hf:f<n
  ·rw[hc f hf];exact Nat.le_refl _
  ·rw[List.count_eq_zero.2 fun q=>hf (hlt f q)];exact Nat.zero_le _)
 obtain⟨l,hl⟩:=proc_it own to (befL mv to n) s
 have e3:(procR own to s (befL mv to n)).it.take (m+1)=s.it.take (m+1):=by rw[hl,List.take_append_of_le_length (by omega)]
 refine⟨by rw[e3];exact h2,fun i hi=>by rw[hc i hi,e3],hlt,by rw[hl,List.length_append];omega⟩
theorem RAll.done {m:Nat} {E:List Nat} (h:RAll n own lost mv s m E) (hmv:∀i,i<n→∀t∈mv i,t<n) (hm:m=s.it.length):ClosedN n own lost mv (fun i=>i<n∧s.rk i=-1)∧∀W,ClosedN n own lost mv W→∀i,W i→i<n∧s.rk i=-1:=by
 have htk:s.it.take m=s.it:=by rw[hm,List.take_length]
 have hI:=h.inv
 have hcnt:=h.cnt
 rw[htk] at hI hcnt
 have hout {i:Nat} (hi:i<n):s.rk i=-1↔i∉s.it:=by
  rw[hI.mem]
  constructor
  ·intro q r;exact r.2 q
  ·intro q;exact Classical.byContradiction fun r=>q ⟨hi,r⟩
 refine⟨⟨fun i hi=>hi.1,fun i hi=>?_,fun i hi ho=>?_,fun i hi ho t ht=>?_⟩,fun W hW i hi=>?_⟩
 ·cases hl:lost i with
  |false=>rfl
  |true=>exact absurd (hI.gone i hi.1 hl) ((hout hi.1).1 hi.2)
 ·have h1:E.count i≠(mv i).length:=fun q=>(hout hi.1).1 hi.2 (hI.ownz i hi.1 ho q)
  rw[hcnt i hi.1] at h1
  have:∃t∈mv i,t∉s.it:=Classical.byContradiction fun q=>h1 (List.countP_eq_length.2 fun t ht=>by
   have:t∈s.it:=Classical.byContradiction fun r=>q ⟨t,ht,r⟩
   simpa using this)
  obtain⟨t,ht,hts⟩:=this
  have htn:=hmv i hi.1 t ht
  exact⟨t,ht,htn,(hout htn).2 hts⟩
 ·have htn:=hmv i hi.1 t ht
  refine⟨htn,(hout htn).2 fun q=>(hout hi.1).1 hi.2 (hI.other i hi.1 ho ?_)⟩
  rw[hcnt i hi.1]
  exact List.countP_pos_iff.2 ⟨t,ht,by simpa using q⟩
 ·have hin:=hW.lt i hi
  exact⟨hin,(hout hin).2 fun q=>hI.bad W hW i q hi⟩
theorem RAll.begin (h1:s.it.Nodup) (h2:∀i,i∈s.it↔i<n∧(lost i=true∨own i=true∧mv i=[])) (h3:∀i,s.rk i=if i<n∧lost i=true then 0 else if i<n∧own i=true∧mv i=[] then 1 else -1) (h4:∀i,i<n→s.op i=((mv i).length:Int)):RAll n own lost mv s 0 []:=by
 refine⟨⟨h1,fun i=>?_,fun i=>?_,fun i hi=>by rw[h4 i hi];simp,fun i hi hl=>(h2 i).2 ⟨hi,.inl hl⟩,fun i hi ho hp=>by simp at hp,fun i hi ho hp=>(h2 i).2 ⟨hi,.inr ⟨ho,?_⟩⟩,fun W hW i hi hWi=>?_,fun t ht=>by simp at ht⟩,fun i hi=>by simp,fun f hf=>by(cases hf),Nat.zero_le _⟩
 ·rw[h2,h3]
  constructor
  ·rintro⟨a,b⟩
   refine⟨a,?_⟩
   split
   ·omega
   ·rename_i q
    rcases b with b|b
    ·exact absurd ⟨a,b⟩ q
    ·rw[if_pos ⟨a,b⟩];omega
  ·rintro⟨a,b⟩
   refine⟨a,?_⟩
   split at b
   ·rename_i q;exact .inl q.2
   ·split at b
    ·rename_i q;exact .inr q.2
    ·exact absurd rfl b
 ·rw[h3];split
  ·omega
  ·split<;>omega
 ·exact List.length_eq_zero_iff.1 (by simpa using hp.symm)
 ·rcases ((h2 i).1 hi).2 with q|q
  ·rw[hW.fine i hWi] at q;cases q
  ·obtain⟨t,ht,_⟩:=hW.mine i hWi q.1
   rw[q.2] at ht
   cases ht
end
end
section
open Go.Eng
def psAt (ps:List Ps) (i:Nat):Ps:=ps.getD i (zS,false)
structure ArenaOk (k:K) (p:Int) (ps:List Ps) (mv:Nat→List Nat):Prop where
 valid:∀i,i<ps.length→validS k (psAt ps i).1=true
 lt:∀i,i<ps.length→∀t∈mv i,t<ps.length
 edge:∀i,i<ps.length→(mv i).map (psAt ps)=(mvS k p (psAt ps i)).map (·.2)
section
variable {k:K} {p:Int} {ps:List Ps} {mv:Nat→List Nat}
theorem ArenaOk.to_ (h:ArenaOk k p ps mv):ClosedN ps.length (fun i=>(psAt ps i).2) (fun i=>lostS k (psAt ps i).1 p) mv (fun i=>i<ps.length∧SafeG k p (psAt ps i)):=by
 have hC:=SafeG.closed k p
 refine⟨fun i hi=>hi.1,fun i hi=>hC.fine _ hi.2,fun i hi ho=>?_,fun i hi ho t ht=>?_⟩
 ·obtain⟨hi,hs⟩:=hi
  have he:=h.edge i hi
  have hx:psAt ps i=((psAt ps i).1,true):=by rw[←ho]
  rw[hx] at hs he
  obtain⟨m,hm,hms⟩:=hC.own _ hs
  have:m.2∈(mv i).map (psAt ps):=by rw[he];exact List.mem_map.2 ⟨m,hm,rfl⟩
  obtain⟨t,ht,e⟩:=List.mem_map.1 this
  exact⟨t,ht,h.lt i hi t ht,by rw[e];exact hms⟩
 ·obtain⟨hi,hs⟩:=hi
  have he:=h.edge i hi
  have hx:psAt ps i=((psAt ps i).1,false):=by rw[←ho]
  rw[hx] at hs he
  have:psAt ps t∈(mvS k p ((psAt ps i).1,false)).map (·.2):=by rw[←he];exact List.mem_map.2 ⟨t,ht,rfl⟩
  obtain⟨m,hm,e⟩:=List.mem_map.1 this
  exact⟨h.lt i hi t ht,by rw[←e];exact hC.other _ hs m hm⟩
theorem ArenaOk.of_ (h:ArenaOk k p ps mv) {S:Nat→Prop} (hS:ClosedN ps.length (fun i=>(psAt ps i).2) (fun i=>lostS k (psAt ps i).1 p) mv S) {i:Nat} (hi:S i):SafeG k p (psAt ps i):=by
 refine⟨fun x=>∃j,S j∧psAt ps j=x,⟨fun x hx=>?_,fun x hx=>?_,fun s hx=>?_,fun s hx m hm=>?_⟩,i,hi,rfl⟩
 ·obtain⟨j,hj,rfl⟩:=hx
  exact h.valid j (hS.lt j hj)
 ·obtain⟨j,hj,rfl⟩:=hx
  exact hS.fine j hj
 ·obtain⟨j,hj,e⟩:=hx
  obtain⟨t,ht,hts⟩:=hS.mine j hj (by rw[e])
  have he:=h.edge j (hS.lt j hj)
  rw[e] at he
  have:psAt ps t∈(mvS k p (s,true)).map (·.2):=by rw[←he];exact List.mem_map.2 ⟨t,ht,rfl⟩
  obtain⟨m,hm,e2⟩:=List.mem_map.1 this
  exact⟨m,hm,t,hts,e2.symm⟩
 ·obtain⟨j,hj,e⟩:=hx
  have he:=h.edge j (hS.lt j hj)
  rw[e] at he
  have:m.2∈(mv j).map (psAt ps):=by rw[he];exact List.mem_map.2 ⟨m,hm,rfl⟩
  obtain⟨t,ht,e2⟩:=List.mem_map.1 this
  exact⟨t,hS.other j hj (by rw[e]) t ht,e2⟩
theorem ArenaOk.rank (h:ArenaOk k p ps mv) {s:Rk} {m:Nat} {E:List Nat} (hr:RAll ps.length (fun i=>(psAt ps i).2) (fun i=>lostS k (psAt ps i).1 p) mv s m E) (hm:m=s.it.length) {i:Nat} (hi:i<ps.length):s.rk i=-1↔SafeG k p (psAt ps i):=by
 obtain⟨h1,h2⟩:=hr.done h.lt hm
 exact⟨fun q=>h.of_ h1 ⟨hi,q⟩,fun q=>(h2 _ h.to_ i ⟨hi,q⟩).2⟩
end
end
section
open Go.Eng
end
section
open Go.Eng
end
section
open Go.Eng
end
section
open Go.Eng
end
section
open Go.Eng
end
section
open Go.Eng
def seesB (k:K) (hold:Nat→Int) (p:Int) (a:Nat):Bool:=
 if((acAt k a).kind !=1||(acAt k a).to==-1||hold (acAt k a).to.toNat==p)=true then true else(acAt k a).role !=-1&&hold (acAt k a).role.toNat==p
theorem sees_ok (k:K) (hk:KFacts k) (s:St) (hs:s.holders.length=k.holders.length) (p:Int) (a:Nat) (ha:a<k.acts.length):Does Tryz.prog 42 [kV k,stV s,.c (.int .i64 p),.c (.int .i64 a)] (.c (.bool (seesB k s.wk.hold p a))):=by
 refine Does.mk (fun _=>false) TT_ok Tryz.func42 rfl (by kernel_rfl) Tryz.ntmps42 rfl rfl fun E hT hE hN hR=>?_
 have hm:=mixO hE
 have fc:k.acts.getD (a:Int).toNat default=acAt k a:=rfl
 have hr:=actF (hk.act a ha)
 unfold seesB
 refine XK.w ?_
 rw[fc]
 generalize acAt k a=x at*
 have hto:x.kind=1→x.to≠-1→0≤x.to∧x.to<s.holders.length:=by omega
 have hro:x.role≠-1→0≤x.role∧x.role<s.holders.length:=by omega
 refine XK.c ?_ ?_<;>intro h1
 ·rw[if_pos (show(x.kind !=1||x.to==-1||s.wk.hold x.to.toNat==p)=true from h1)]
  refine XK.w ?_
  refine XK.q ?_
  rfl
 ·rw[if_neg (show ¬(x.kind !=1||x.to==-1||s.wk.hold x.to.toNat==p)=true by rw[show(x.kind !=1||x.to==-1||s.wk.hold x.to.toNat==p)=false from h1];simp)]
  refine XK.w ?_
  refine XK.q ?_
  rfl
noncomputable def SeesR (k:K) (s:St) (p a:Int):Bool:=validS k s&&decide (0≤p)&&decide (p<k.parties)&&decide (0≤a)&&decide (a<k.acts.length)&&seesB k s.wk.hold p a.toNat
theorem anyP {l:List Int} {p:Int→Bool}:l.any p=true↔∃i,i<l.length∧p (l.getD i default)=true:=by
 rw[List.any_eq_true]
 constructor
 ·rintro⟨x,hx,h⟩
  obtain⟨i,hi,rfl⟩:=List.getElem_of_mem hx
  exact⟨i,hi,by simpa only[List.getD_eq_getElem?_getD,List.getElem?_eq_getElem hi,Option.getD_some] using h⟩
 ·rintro⟨i,hi,h⟩
  refine⟨_,List.getElem_mem hi,?_⟩
  simpa only[List.getD_eq_getElem?_getD,List.getElem?_eq_getElem hi,Option.getD_some] using h
def idxP (l:List Int) (p:Int→Bool):Int:=match(List.range l.length).find? (fun i=>p (l.getD i default)) with
 |some i=>(i:Int)
 |none=>-1
theorem idxP_some {l:List Int} {p:Int→Bool} {i:Nat} (hi:i<l.length) (h:p (l.getD i default)=true) (h2:∀j,j<i→p (l.getD j default)=false):idxP l p=i:=by
 have:(List.range l.length).find? (fun i=>p (l.getD i default))=some i:=by
  rw[List.find?_range_eq_some]
  exact⟨h,by simpa using hi,fun j hj=>by rw[h2 j hj];rfl⟩
 unfold idxP
 rw[this]
theorem idxP_none {l:List Int} {p:Int→Bool} (h2:∀j,j<l.length→p (l.getD j default)=false):idxP l p=-1:=by
 have:(List.range l.length).find? (fun i=>p (l.getD i default))=none:=by
  rw[List.find?_range_eq_none]
  exact fun j hj=>by rw[h2 j hj];rfl
 unfold idxP
 rw[this]
theorem idxP_ge {l:List Int} {p:Int→Bool}:0≤idxP l p↔l.any p=true:=by
 rw[anyP]
 unfold idxP
 split
 ·rename_i i h
  have h1:=List.find?_some h
  have h2:=List.mem_of_find?_eq_some h
  simp only[List.mem_range] at h2
  exact⟨fun _=>⟨i,h2,h1⟩,fun _=>by omega⟩
 ·rename_i h
  rw[List.find?_range_eq_none] at h
  refine⟨fun h2=>by omega,?_⟩
  rintro⟨i,h1,h2⟩
  have:=h i h1
  rw[h2] at this;cases this
theorem indexJ_ok (k:K) (l:List Int) (p:Int→Bool) (hp:∀i,i<l.length→Does Tryz.prog 37 [.c (.int .i64 (l.getD i default)),.rptr (kC k)] (.c (.bool (p (l.getD i default))))):
  Does Tryz.prog 66 [intsV l,.fn (.func 37) [] [.rptr (kC k)]] (.c (.int .i64 (idxP l p))):=by
 refine Does.mk (fun _=>false) TT_ok Tryz.func66 rfl (by kernel_rfl) Tryz.ntmps66 rfl rfl fun E hT hE hN hR=>?_
 have hm:=mixO hE
 refine XK.fact (Sat.rs_len (j:=0) rfl) fun hlen=>?_
 have hm':l.length≤9223372036854775807:=hlen.1
 refine XK.w ?_
 refine XK.loop (ι:=Nat) (fun i=>ST.of [(0,intsV l),(1,.fn (.func 37) [] [.rptr (kC k)]),(7,.c (.int .i64 l.length)),(8,.c (.int .i64 i))] [] 1000 19 (fun _=>false))
  (fun i=>i≤l.length∧∀j,j<i→p (l.getD j default)=false) (fun i=>l.length-i) 0 ⟨Nat.zero_le _,fun j hj=>absurd hj (Nat.not_lt_zero _)⟩
  (Weak.of hN rfl rfl rfl frI frI) fun i hi=>?_
 obtain⟨hi1,hi2⟩:=hi
 refine XK.c ?_ ?_<;>intro hlt<;>try simp at hlt
 ·have hpi:=hp i hlt
  have f1:l.getD (i:Int).toNat default=l.getD i default:=rfl
  refine XK.r ?_
  rw[f1]
  refine XL.callLA hE rfl rfl rfl rfl trivial rfl (hpi) rfl ?_
  refine XL.e ?_
  refine XK.c ?_ ?_<;>intro h1
  ·refine XK.w ?_
   refine XK.q ?_
   rw[idxP_some hlt h1 hi2]
  ·refine XK.w ?_
   refine XK.inv ⟨i+1,⟨hlt,fun j hj=>?_⟩,(Weak.of hN rfl rfl rfl frI frI),by omega⟩
   by_cases h:j=i
   ·subst h;exact h1
   ·exact hi2 j (by omega)
 ·refine XK.w ?_
  refine XK.q ?_
  rw[idxP_none fun j hj=>hi2 j (by omega)]
theorem containsJ_ok (k:K) (l:List Int) (p:Int→Bool) (hp:∀i,i<l.length→Does Tryz.prog 37 [.c (.int .i64 (l.getD i default)),.rptr (kC k)] (.c (.bool (p (l.getD i default))))):
  Does Tryz.prog 38 [intsV l,.fn (.func 37) [] [.rptr (kC k)]] (.c (.bool (l.any p))):=by
 refine Does.mk (fun _=>false) TT_ok Tryz.func38 rfl (by kernel_rfl) Tryz.ntmps38 rfl rfl fun E hT hE hN hR=>?_
 have hm:=mixO hE
 refine XK.r ?_
 refine XL.callKA hE rfl rfl rfl rfl trivial rfl rfl (indexJ_ok k l p hp) ?_
 refine XL.e ?_
 refine XK.q ?_
 refine cB ?_
 rw[Bool.eq_iff_iff,decide_eq_true_eq]
 exact idxP_ge
theorem indexH_ok (k:K) (s:St) (a:Int) (l:List Int) (p:Int→Bool) (hp:∀i,i<l.length→Does Tryz.prog 41 [.c (.int .i64 (l.getD i default)),.rptr (kC k),.rptr (stC s),.rptr [.c (.int .i64 a)]] (.c (.bool (p (l.getD i default))))):
  Does Tryz.prog 66 [intsV l,.fn (.func 41) [] [.rptr (kC k),.rptr (stC s),.rptr [.c (.int .i64 a)]]] (.c (.int .i64 (idxP l p))):=by
 refine Does.mk (fun _=>false) TT_ok Tryz.func66 rfl (by kernel_rfl) Tryz.ntmps66 rfl rfl fun E hT hE hN hR=>?_
 have hm:=mixO hE
 refine XK.fact (Sat.rs_len (j:=0) rfl) fun hlen=>?_
 have hm':l.length≤9223372036854775807:=hlen.1
 refine XK.w ?_
 refine XK.loop (ι:=Nat) (fun i=>ST.of [(0,intsV l),(1,.fn (.func 41) [] [.rptr (kC k),.rptr (stC s),.rptr [.c (.int .i64 a)]]),(7,.c (.int .i64 l.length)),(8,.c (.int .i64 i))] [] 1000 19 (fun _=>false))
  (fun i=>i≤l.length∧∀j,j<i→p (l.getD j default)=false) (fun i=>l.length-i) 0 ⟨Nat.zero_le _,fun j hj=>absurd hj (Nat.not_lt_zero _)⟩
  (Weak.of hN rfl rfl rfl frI frI) fun i hi=>?_
 obtain⟨hi1,hi2⟩:=hi
 refine XK.c ?_ ?_<;>intro hlt<;>try simp at hlt
 ·have hpi:=hp i hlt
  have f1:l.getD (i:Int).toNat default=l.getD i default:=rfl
  refine XK.r ?_
  rw[f1]
  refine XL.callLA hE rfl rfl rfl rfl trivial rfl (hpi) rfl ?_
  refine XL.e ?_
  refine XK.c ?_ ?_<;>intro h1
  ·refine XK.w ?_
   refine XK.q ?_
   rw[idxP_some hlt h1 hi2]
  ·refine XK.w ?_
   refine XK.inv ⟨i+1,⟨hlt,fun j hj=>?_⟩,(Weak.of hN rfl rfl rfl frI frI),by omega⟩
   by_cases h:j=i
   ·subst h;exact h1
   ·exact hi2 j (by omega)
 ·refine XK.w ?_
  refine XK.q ?_
  rw[idxP_none fun j hj=>hi2 j (by omega)]
theorem containsH_ok (k:K) (s:St) (a:Int) (l:List Int) (p:Int→Bool) (hp:∀i,i<l.length→Does Tryz.prog 41 [.c (.int .i64 (l.getD i default)),.rptr (kC k),.rptr (stC s),.rptr [.c (.int .i64 a)]] (.c (.bool (p (l.getD i default))))):
  Does Tryz.prog 38 [intsV l,.fn (.func 41) [] [.rptr (kC k),.rptr (stC s),.rptr [.c (.int .i64 a)]]] (.c (.bool (l.any p))):=by
 refine Does.mk (fun _=>false) TT_ok Tryz.func38 rfl (by kernel_rfl) Tryz.ntmps38 rfl rfl fun E hT hE hN hR=>?_
 have hm:=mixO hE
 refine XK.r ?_
 refine XL.callKA hE rfl rfl rfl rfl trivial rfl rfl (indexH_ok k s a l p hp) ?_
 refine XL.e ?_
 refine XK.q ?_
 refine cB ?_
 rw[Bool.eq_iff_iff,decide_eq_true_eq]
 exact idxP_ge
end
section
open Go.Eng
theorem sees2_ok (k:K) (hk:kW k) (s:St) (p a:Int):Does Tryz.prog 44 [kV k,stV s,.c (.int .i64 p),.c (.int .i64 a)] (.c (.bool (SeesR k s p a))):=by
 refine Does.mk (fun _=>false) TT_ok Tryz.func44 rfl (by kernel_rfl) Tryz.ntmps44 rfl rfl fun E hT hE hN hR=>?_
 have hm:=mixO hE
 refine XK.r ?_
 refine XL.callLA hE rfl rfl rfl rfl trivial rfl (validS_ok k hk s) rfl ?_
 refine XL.g ?_
 have hc:(validS k s&&decide (0≤p)&&decide (p<k.parties)&&decide (0≤a)&&decide (a<k.acts.length))=true→Does Tryz.prog 42 [kV k,stV s,.c (.int .i64 p),.c (.int .i64 a)] (.c (.bool (seesB k s.wk.hold p a.toNat))):=fun h=>by
  simp only[Bool.and_eq_true,decide_eq_true_eq] at h
  have hl:=validS_len h.1.1.1.1
  have hF:=(show kOk k from⟨hk,hl.1⟩).facts
  have:=sees_ok k hF s hl.2.1 p a.toNat (by omega)
  rwa[Int.toNat_of_nonneg (by omega)] at this
 refine XL.callLG hE rfl rfl rfl rfl rfl rfl rfl (by first|(simp[AllP,impG];done)|(simp only[AllP,impG];grind)) rfl (fun hgd=>⟨hc hgd,(by(repeat' (first|exact rfl|exact AvIs.refl _|exact trivial|(intro i hi;rfl)|exact fun _ _=>⟨rfl,AvIs.refl _⟩|(intro i hi;rcases i with _|_|_|_|_|_|_|i<;>first|rfl|exact absurd hi (by simp;done)|(simp at hi;omega))|refine⟨?_,?_⟩)))⟩) rfl ?_
 refine XL.e ?_
 refine XK.q ?_
 rfl
def strB (k:K) (p:Int):Bool:=decide (p<0)||decide (k.parties≤p)
theorem str_ok (k:K) (p:Int):Does Tryz.prog 37 [.c (.int .i64 p),.rptr (kC k)] (.c (.bool (strB k p))):=by
 refine Does.mk (fun _=>false) TT_ok Tryz.func37 rfl (by kernel_rfl) Tryz.ntmps37 rfl rfl fun E hT hE hN hR=>?_
 have hm:=mixO hE
 refine XK.w ?_
 refine XK.q ?_
 rfl
theorem j21_ok (k:K) (hk:KFacts k) (s:St) (hs:s.holders.length=k.holders.length) (p:Int) (a:Nat) (ha:a<k.acts.length):Does Tryz.prog 41 [.c (.int .i64 p),.rptr (kC k),.rptr (stC s),.rptr [.c (.int .i64 a)]] (.c (.bool (seesB k s.wk.hold p a))):=by
 refine Does.mk (fun _=>false) TT_ok Tryz.func41 rfl (by kernel_rfl) Tryz.ntmps41 rfl rfl fun E hT hE hN hR=>?_
 have hm:=mixO hE
 refine XK.r ?_
 refine XL.callKA hE rfl rfl rfl rfl trivial rfl rfl (sees_ok k hk s hs p a ha) ?_
 refine XL.e ?_
 refine XK.q ?_
 rfl
def someB (k:K) (ps:List Int) (s:St) (a:Nat):Bool:=ps.any (fun p=>seesB k s.wk.hold p a)
theorem j2_ok (k:K) (hk:KFacts k) (ps:List Int) (s:St) (hs:s.holders.length=k.holders.length) (a:Nat) (ha:a<k.acts.length):Does Tryz.prog 40 [stV s,.c (.int .i64 a),.rptr [intsV ps],.rptr (kC k)] (.c (.bool (someB k ps s a))):=by
 refine Does.mk (fun _=>false) TT_ok Tryz.func40 rfl (by kernel_rfl) Tryz.ntmps40 rfl rfl fun E hT hE hN hR=>?_
 have hm:=mixO hE
 iterate 2 (first|refine XK.n ?_|refine XK.a ?_|refine XK.b ?_)
 refine XK.weak (Weak.trans (Weak.frozenC (k:=4) hN rfl rfl rfl) (Weak.trans (Weak.frozenC (k:=5) hN rfl rfl rfl) (Weak.of (L:=[(2,.rptr [intsV ps]),(3,.rptr (kC k)),(4,.rptr (stC s)),(5,.rptr [.c (.int .i64 a)])]) (O:=[]) (nx:=1000) (nt:=10) (md:=fun _=>false) hN rfl rfl rfl frI frI))) ?_
 refine XK.r ?_
 refine XL.callKA hE rfl rfl rfl rfl trivial rfl rfl (containsH_ok k s a ps (fun p=>seesB k s.wk.hold p a) (fun i hi=>j21_ok k hk s hs _ a ha)) ?_
 refine XL.e ?_
 refine XK.q ?_
 rfl
end
section
open Go.Eng
section
variable {k:K}
theorem step_quiet {s:St} {a:Int} (ha:0≤a) (h:(stepS k s a).2=0) (hkd:(acAt k a.toNat).kind=1) (hn:∀i,i<k.clauses.length→runsM (s.wk.mark i)=true→¬namedC k i a):(stepS k s a).1=s:=by
 obtain⟨h1,h2,h3,h4,h5⟩:=stepS_good h
 rw[h5]
 have e:(a.toNat:Int)=a:=by omega
 have m1 {f:Nat→Mk→Mk} (w:Wk) (hf:∀i,i<k.clauses.length→runsM (w.mark i)=true→f i (w.mark i)=w.mark i):mapRun f w k.clauses.length=w:=by
  unfold mapRun
  have:(fun i=>if i<k.clauses.length∧runsM (w.mark i)=true then f i (w.mark i) else w.mark i)=w.mark:=by
   funext i
   split
   ·rename_i q;exact hf i q.1 q.2
   ·rfl
  rw[this]
 show outS k (stepW k s.wk a)=s
 unfold stepW
 rw[if_neg (by omega)]
 unfold actW'
 rw[if_neg (by rw[hkd];simp)]
 unfold preG
 rw[if_neg (by rw[hkd];simp)]
 unfold preA
 rw[m1 s.wk (f:=pauseM k a.toNat) (fun i hi hr=>by
  have:=hn i hi hr
  unfold namedC at this
  unfold pauseM
  rw[e,if_neg (fun q=>this (.inr (.inl q.symm))),if_neg (fun q=>this (.inr (.inr q.symm)))]),m1 s.wk (fun i hi hr=>by
  have:=hn i hi hr
  unfold namedC at this
  unfold effM
  rw[e,if_neg (fun q=>this (.inl q.1))]),startW_still (rdy_none h1)]
 exact outS_same h1
def namedB (k:K) (s:St) (a:Nat):Bool:=(List.range s.marks.length).any fun i=>runsM (s.marks.getD i default)&&((clAt k i).act==(a:Int)||((clAt k i).pause !=-1&&((clAt k i).pause==(a:Int)||(clAt k i).resume==(a:Int))))
noncomputable def hidB (k:K) (s:St) (p:Int) (a:Nat):Bool:=namedB k s a&&(acAt k a).kind==1&&(acAt k a).to !=-1&&!SeesR k s p a
theorem sees_open {s:St} {p:Int} {a:Nat} (hv:validS k s=true) (hp:0≤p∧p<k.parties) (ha:a<k.acts.length) (h:SeesR k s p a=false):(acAt k a).kind=1∧(acAt k a).to≠-1:=by
 unfold SeesR at h
 simp only[hv,decide_eq_true hp.1,decide_eq_true hp.2,decide_eq_true (show(0:Int)≤a by omega),decide_eq_true (show(a:Int)<k.acts.length by omega),Bool.true_and,Int.toNat_natCast] at h
 unfold seesB at h
 split at h
 ·cases h
 ·rename_i q
  simp only[Bool.or_eq_true,bne_iff_ne,beq_iff_eq,not_or,Decidable.not_not] at q
  exact q.1
theorem hid_or_same (hF:KFacts k) {s:St} {p:Int} {a:Nat} (hp:0≤p∧p<k.parties) (h:(stepS k s (a:Int)).2=0) (hs:SeesR k s p a=false):hidB k s p a=true∨(stepS k s (a:Int)).1=s:=by
 obtain⟨h1,h2,h3,-⟩:=stepS_good h
 obtain⟨q1,q2⟩:=sees_open h1 hp (by omega) hs
 by_cases hn:namedB k s a=true
 ·left
  unfold hidB
  rw[hn,hs]
  simp[q1,q2]
 ·right
  refine step_quiet (by omega) h (by rw[Int.toNat_natCast];exact q1) fun i hi hr hnm=>hn ?_
  have hl:=(validS_len h1).2.2.2.1
  refine List.any_eq_true.2 ⟨i,by simp;omega,?_⟩
  have hr:runsM (s.marks.getD i default)=true:=hr
  rw[hr,Bool.true_and]
  have hcl:=(hF.clB hi).2.2.2.2.2.1
  unfold namedC at hnm
  have:(clAt k i).act=(a:Int)∨(clAt k i).pause≠-1∧((clAt k i).pause=(a:Int)∨(clAt k i).resume=(a:Int)):=by
   rcases hnm with q|q|q
   ·exact .inl q
   ·exact .inr ⟨by omega,.inl q⟩
   ·right
    refine⟨fun e=>?_,.inr q⟩
    rcases hcl with⟨-,g⟩|⟨g1,g2,g3⟩
    ·omega
    ·rw[e] at g2;cases g2
  simp only[Bool.or_eq_true,beq_iff_eq,Bool.and_eq_true,bne_iff_ne]
  exact this
end
end
end Go.Proofs.YtgpkkllbejgmlaaGreatDoor
