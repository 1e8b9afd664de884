import Derived.Test.YtgpkkllbejgmlaaGreatDoorZz14
import Derived.Test.YtgpkkllbejgmlaaGreatDoorZz25
import Derived.Test.YtgpkkllbejgmlaaGreatDoorZz26
import Derived.Test.YtgpkkllbejgmlaaGreatDoorZz19
set_option linter.unusedSimpArgs false
set_option linter.unusedVariables false
set_option maxRecDepth 10000
namespace Go.Proofs.YtgpkkllbejgmlaaGreatDoor
section
open Go.Eng Go.RowKit Go.Lib
def arC (p:Int) (s:ArS):List AV:=[.c (.int .i64 p),rowL psC 5 s.1.ps,rowL (fun l=>[rowL mvC 2 l]) 1 s.2]
def arV (p:Int) (s:ArS):AV:=.agg (arC p s)
def nilA:AV:=.agg [.c (.int .i64 0),.c (.slice none 0 0),.c (.slice none 0 0)]
noncomputable def fromV (k:K) (p:Int) (x:Ps):AV:=if plB k p x=false then .tup [nilA,.c (.int .i64 1)] else if(fromR k p x).2=true then .tup [nilA,.c (.int .i64 3)] else .tup [arV p (fromR k p x).1,.c (.int .i64 0)]
theorem _root_.Go.Eng.Weak.ghostAt {E:Env} {st:ST} {c k t e sz:Nat} {cs:List AV} {i0:Nat} {f:Nat→List AV} (hc:st.ob c=some (.cells t cs)) (hi0:cs[i0]?=some (.c (.slice none 0 0))) (hk:st.ob k=none) (hck:Nat.beq c k=false):
  Weak E st {st with ob:=upd (upd st.ob k (some (.vec e sz 0 0 f))) c (some (.cells t (cs.set i0 (.vec k 0))))}:=by
 have hck:c≠k:=fun h=>by subst h;simp at hck
 intro a w ⟨ρ,h⟩
 have hn:=h.no k hk
 have hu:∀i x b,upd ρ k (some (.hdr 0 (.slice none 0 0))) i=some x→x.block=some b→ρ i=some x:=by
  intro i x b hi hb
  by_cases hik:i=k
  ·subst hik;rw[upd_same] at hi;injection hi with hi;subst hi;cases hb
  ·rwa[upd_other _ _ hik] at hi
 have hl:Le ρ (upd ρ k (some (.hdr 0 (.slice none 0 0)))):=by
  intro i x hi
  by_cases hik:i=k
  ·subst hik;rw[hn] at hi;cases hi
  ·rw[upd_other _ _ hik];exact .inl hi
 have hG:∀b,E.good w ρ b→E.good w (upd ρ k (some (.hdr 0 (.slice none 0 0)))) b∧w.heap[b]?=w.heap[b]?:=fun b ⟨h0,hlt,hno⟩=>⟨⟨h0,hlt,fun i y hi hy=>hno i y (hu i y b hi hy) hy⟩,rfl⟩
 refine⟨upd ρ k (some (.hdr 0 (.slice none 0 0))),h.keep,h.tsz,h.dfr.tr hG,h.gl.tr hG,fun i=>(h.fr i).tr hG _ hl,fun i o hi=>?_,fun i hi=>?_,fun i i' y y' b hi hi' hy hy'=>h.dis i i' y y' b (hu i y b hi hy) (hu i' y' b hi' hy') hy hy',fun i y b hi hy=>h.own i y b (hu i y b hi hy) hy,fun i hi x hx=>?_⟩
 ·by_cases hic:i=c
  ·subst hic
   simp only[upd_same] at hi
   injection hi with hi
   subst hi
   obtain⟨g,arr,h1,h2,h3,h4⟩:=h.ob i _ hc
   refine⟨g,arr,(upd_other _ _ hck).trans h1,h2,by rw[List.length_set];exact h3,fun j x hj=>?_⟩
   by_cases hj0:j=i0
   ·subst hj0
    have hlt:j<cs.length:=(List.getElem?_eq_some_iff.1 hi0).1
    rw[List.getElem?_set_self hlt] at hj
    injection hj with hj
    subst hj
    have:=(h4 j _ hi0).c_inv
    rw[this]
    exact .vec (upd_same _ _ _)
   ·rw[List.getElem?_set_ne (fun q=>hj0 q.symm)] at hj
    exact(h4 j x hj).tr hG _ hl
  ·simp only[upd_other _ _ hic] at hi
   by_cases hik:i=k
   ·subst hik
    simp only[upd_same] at hi
    injection hi with hi
    subst hi
    exact⟨.slice none 0 0,[],upd_same _ _ _,⟨by simp,.inl ⟨rfl,rfl⟩⟩,(fun i hi=>absurd hi (by omega)),fun i j x hi=>absurd hi (by omega)⟩
   ·simp only[upd_other _ _ hik] at hi
    exact(h.ob i o hi).tr hG hl (upd_other _ _ hik) fun _ _ _ _=>rfl
 ·by_cases hic:i=c
  ·subst hic;simp only[upd_same] at hi;cases hi
  ·simp only[upd_other _ _ hic] at hi
   by_cases hik:i=k
   ·subst hik;rw[upd_same] at hi;cases hi
   ·rw[upd_other _ _ hik] at hi ⊢;exact h.no i hi
 ·rcases h.le i hi x hx with h1|⟨s,v,s',v',h1,h2,h3⟩
  ·exact hl i x h1
  ·rcases hl i _ h2 with h4|⟨s1,v1,s2,v2,h4,h5,h6⟩
   ·exact .inr ⟨s,v,s',v',h1,h4,h3⟩
   ·injection h4 with h4 h4';subst h4 h4'
    exact .inr ⟨s,v,s2,v2,h1,h5,by omega⟩
theorem from_ok (k:K) (hF:KFacts k) (hv:(kValid k).1=0) (p:Int) (x:Ps) (hpl:plB k p x=true):Does Tryz.prog 50 [kV k,.c (.int .i64 p),psV x] (fromV k p x):=by
 have hk:=hF.w
 have hpc:=playable_ok k hk p x
 rw[hpl] at hpc
 have hvx:validS k x.1=true:=by unfold plB at hpl;simp at hpl;exact hpl.2
 have hl:=validS_len hvx
 have hn:=hF.nh
 have hna:=hF.na
 have hnc:=hF.nc
 have cp:=copiedA_ok x.1 (by omega) (by omega) (by omega)
 have tx:=text_ok x (txOk_of hk hvx)
 unfold fromV
 rw[if_neg (by rw[hpl];simp)]
 refine Does.mk (fun d=>Nat.beq d 30) TT_ok Tryz.func50 rfl (by kernel_rfl) Tryz.ntmps50 rfl rfl fun E hT hE hN hR=>?_
 have hm:=mixO hE
 refine XK.r ?_
 refine XL.callLA hE rfl rfl rfl rfl trivial rfl (hpc) rfl ?_
 refine XL.e ?_
 refine XK.c ?_ ?_<;>intro h1
 ·cases h1
 refine XK.s ?_
 refine XD.callKA hE rfl rfl rfl rfl trivial rfl rfl (cp) ?_
 refine XD.e ?_
 refine XK.r ?_
 refine XL.callKA hE rfl rfl rfl rfl trivial rfl rfl (tx) ?_
 refine XL.e ?_
 refine XK.loop (ι:=Nat) (fun i=>ST.of [(1,.c (.int .i64 p)),(3,.ptr 3 0),(6,.ptr 6 0),(7,.ptr 7 0),(8,.ptr 190 0),(9,.ptr 282 0),(10,.c (.int .i64 i))]
   [(3,.cells 27 (kC k)),(6,.cells 107 [.c (.int .i64 0),.c (.slice none 0 0),.c (.slice none 0 0)]),(7,.cells 32 [.c (.int .i64 0)]),(190,.cells 107 [.c (.int .i64 p),.vec 212 0,.vec 700 0]),(212,psO 0 (arT k p x i).1.ps),(700,mvsO (arT k p x i).2),(282,.cells 169 [.mp 305]),(305,fO (arT k p x i).1.fnd)] 1000 91 (fun d=>Nat.beq d 30))
  (fun i=>(arT k p x i).1.ps.length≤1500∧i≤(arT k p x i).1.ps.length∧(∀j,j<i→j<(arT k p x j).1.ps.length)∧fromR k p x=frRun k p x (1502-i) i) (fun i=>1501-i) 0 ⟨by show 1≤1500;omega,Nat.zero_le _,fun j hj=>absurd hj (Nat.not_lt_zero _),rfl⟩
  (Weak.trans (Weak.ghostAt (c:=190) (k:=700) (i0:=2) (e:=170) (sz:=1) (f:=fun _=>[]) rfl rfl rfl rfl) (Weak.of hN rfl rfl rfl frI ⟨frI,frI,frI,frI,⟨⟨rfl,rfl,rfl⟩,rfl,fun i hi=>by cases Nat.lt_one_iff.1 hi;rfl⟩,⟨⟨rfl,rfl,rfl⟩,rfl,fun i hi=>absurd hi (Nat.not_lt_zero _)⟩,frI,⟨rfl,rfl,fun v hv=>fO_new (txA x) v hv⟩⟩)) fun i hi=>?_
 obtain⟨h15,hil,hij,hfr⟩:=hi
 have hA:=arT_ok hk hvx i hij
 have hro:=round_ok (k:=k) (p:=p) (x:=x) (i:=i) h15
 have hs1:(arT k p x (i+1)).2=(arT k p x i).2++[(arT k p x (i+1)).1.cur]:=rfl
 have hrd:roundR k p (arT k p x i) i=(mvS k p (psAt (arT k p x i).1.ps i)).foldl addL ({(arT k p x i).1 with cur:=[]},false):=rfl
 have hrun:frRun k p x (1502-i) i=if(arT k p x i).1.ps.length≤i then(arT k p x i,false) else if 1500<(arT k p x (i+1)).1.ps.length then(arT k p x i,true) else frRun k p x (1502-(i+1)) (i+1):=by
  rw[show 1502-i=(1501-i)+1 by omega,frRun,show 1502-(i+1)=1501-i by omega]
 rw[hrun] at hfr
 clear hrun
 refine XK.c ?_ ?_<;>intro hlt<;>try simp at hlt
 rotate_left
 ·rw[if_pos (by omega)] at hfr
  rw[hfr,if_neg (by simp)]
  refine XK.w ?_
  refine XK.weak (Weak.trans (Weak.frozen (k:=212) hN rfl rfl) (Weak.frozen (k:=700) hN rfl rfl)) ?_
  refine XK.w ?_
  refine XK.q ?_
  rfl
 have hlt:i<(arT k p x i).1.ps.length:=by omega
 rw[if_neg (by omega)] at hfr
 have hvi:=hA.ok.valid _ (psAt_mem hlt)
 have fx:psAt (arT k p x i).1.ps (i:Int).toNat=psAt (arT k p x i).1.ps i:=rfl
 have hln:=hA.len
 have hmo:=moves_ok k p (psAt (arT k p x i).1.ps i)
 have hmo1:=moves1_ok k hF p (psAt (arT k p x i).1.ps i) hvi
 have hij':∀j,j<i+1→j<(arT k p x j).1.ps.length:=fun j h=>by
  by_cases e:j=i
  ·subst e;omega
  ·exact hij j (by omega)
 clear hA
 generalize hS1:arT k p x (i+1)=S1 at*
 generalize hS0:arT k p x i=S0 at*
 obtain⟨⟨ps,fnd,cur⟩,mv⟩:=S0
 dsimp only at*
 refine XK.w ?_
 refine XK.s ?_
 rw[fx]
 generalize psAt ps i=y at*
 refine XD.callKA hE rfl rfl rfl rfl trivial rfl rfl (hmo) ?_
 refine XD.e ?_
 generalize hsE:roundR k p ((⟨ps,fnd,cur⟩,mv):ArS) i=sE at*
 refine XK.weak (Weak.trans (Weak.ghostC (c:=1102) (k:=1103) (e:=175) (sz:=2) (f:=fun _=>[]) rfl rfl rfl) (Weak.trans (Weak.stamp (k:=212) (t:=2*ps.length) hN rfl rfl)
  (Weak.of (L:=[(1,.c (.int .i64 p)),(3,.ptr 3 0),(6,.ptr 6 0),(7,.ptr 7 0),(8,.ptr 190 0),(9,.ptr 282 0),(10,.c (.int .i64 i)),(11,.ptr 1102 0),(50,.fn (.func 131) [] [.rptr (psC y),.rptr (kC k),.rptr [.c (.int .i64 p)]])])
   (O:=[(3,.cells 27 (kC k)),(6,.cells 107 [.c (.int .i64 0),.c (.slice none 0 0),.c (.slice none 0 0)]),(7,.cells 32 [.c (.int .i64 0)]),(190,.cells 107 [.c (.int .i64 p),.vec 212 (2*ps.length),.vec 700 0]),(212,psO (2*ps.length) ps),(700,mvsO mv),(282,.cells 169 [.mp 305]),(305,fO fnd),(1102,.cells 170 [.vec 1103 0]),(1103,mvO 0 [])])
   (nx:=2000) (nt:=91) (md:=fun d=>Nat.beq d 30) hN rfl rfl rfl frI ⟨frI,frI,frI,⟨rfl,congrArg (fun x=>[AV.c (.int .i64 p),x,AV.vec 700 0]) (stampG_self 212 0 (2*ps.length))⟩,frI,frI,frI,frI,frI,⟨⟨rfl,rfl,rfl⟩,rfl,fun i hi=>absurd hi (Nat.not_lt_zero _)⟩⟩))) ?_
 refine XK.rangeFunc 900 [190,212,700,282,305,1102,1103,6,7] (frL 91 [(6,.ptr 6 0),(7,.ptr 7 0),(8,.ptr 190 0),(9,.ptr 282 0),(11,.ptr 1102 0)])
  (ST.of [(1,.c (.int .i64 p)),(3,.ptr 3 0),(6,.ptr 6 0),(7,.ptr 7 0),(8,.ptr 190 0),(9,.ptr 282 0),(10,.c (.int .i64 i)),(11,.ptr 1102 0)]
   [(3,.cells 27 (kC k)),(6,.cells 107 [.c (.int .i64 0),.c (.slice none 0 0),.c (.slice none 0 0)]),(7,.cells 32 [.c (.int .i64 (if sE.2=true then 3 else 0))]),(190,.cells 107 [.c (.int .i64 p),.vec 212 (2*(sE.1.ps.length+cond sE.2 1 0)),.vec 700 0]),(212,psO (2*(sE.1.ps.length+cond sE.2 1 0)) sE.1.ps),(700,mvsO mv),(282,.cells 169 [.mp 305]),(305,fO sE.1.fnd),(1102,.cells 170 [.vec 1103 (2*sE.1.cur.length)]),(1103,mvO (2*sE.1.cur.length) sE.1.cur)] 3000 91 (fun d=>Nat.beq d 30))
  (res:=.tup []) (args':=[.rptr (psC y),.rptr (kC k),.rptr [.c (.int .i64 p)]]) (s:=if sE.2=false then .ready else .done) (pend:=if sE.2=false then none else some .ret) (O':=frO p mv sE) (O:=frO p mv (⟨ps,fnd,[]⟩,false)) hR rfl trivial rfl (frL_length _ _) (frL_is frI) (fun L D fn=>?_) rfl frI rfl rfl frI rfl rfl (by split<;>simp) (fun L D fn cs=>(Weak.of hN rfl rfl rfl frI frI)) ?_
 ·rw[hE,hrd]
  refine hmo1 L L (recOf fn _ _ _ D) .ret _ mv (fun l=>l.foldl addL (⟨ps,fnd,[]⟩,false)) rfl (fun l h r=>by rw[List.foldl_append];exact addL_stop h r) (fun l m hl1 h0 hvm=>?_) ?_
  rotate_left
  ·split<;>rfl
  clear hmo1 hmo
  have hb:=(addL_all l ⟨ps,fnd,[]⟩ h15).1
  have hbc:=addL_cur l (⟨ps,fnd,[]⟩,false)
  rw[show(((⟨ps,fnd,[]⟩,false):FS).1.cur.length)=0 from rfl] at hbc
  have hadd:(l++[m]).foldl addL (⟨ps,fnd,[]⟩,false)=addL (l.foldl addL (⟨ps,fnd,[]⟩,false)) m:=by rw[List.foldl_append];rfl
  rw[hadd]
  clear hadd hrd hsE hro
  generalize l.foldl addL (⟨ps,fnd,[]⟩,false)=s at*
  obtain⟨⟨qs,f,c⟩,st⟩:=s
  dsimp only at h0 hb hbc
  subst h0
  have txm:=text_ok m.2 (txOk_of hk hvm)
  have had:addL (⟨qs,f,c⟩,false) m=if f (txA m.2)=none∧qs.length=1500 then(⟨qs,f,c⟩,true) else(addE ⟨qs,f,c⟩ m,false):=by unfold addL;rw[if_neg (by simp)]
  obtain⟨mn,y2⟩:=m
  dsimp only at*
  refine DoesR.mkT TT_ok (fun _=>false) 100 (ST.of [(6,.ptr 8 0),(7,.ptr 9 0),(8,.ptr 1 0),(9,.ptr 4 0),(11,.ptr 6 0),(12,.c (.int .i64 mn)),(13,.ptr 204 0)]
   ((0,.lrec (recOf fn _ _ _ D .ready none) L csF)::frN p mv (⟨qs,f,c⟩,false)++[(204,.cells 50 (psC y2))]) 1000 91 (fun _=>false)) rfl ?_ (Nat.le_refl 9) (fun E hT hE hN hR=>?_) rfl (fun E hT hE hN hR=>?_)
  ·intro x hx
   have hx:x=51∨x=52:=by simpa using hx
   have:csF.length=91:=frL_length _ _
   rcases hx with rfl|rfl
   ·show 51<csF.length;rw[this];omega
   ·show 52<csF.length;rw[this];omega
  ·have hm:=mixO hE
   refine XK.w ?_
   exact XK.nil ⟨rfl,(Weak.of hN rfl rfl rfl frI frI)⟩
  ·have hm:=mixO hE
   refine XK.r ?_
   refine XL.callKA hE rfl rfl rfl rfl trivial rfl rfl (txm) ?_
   refine XL.e ?_
   have ef:fV f (.string ⟨(txA y2).toArray⟩)=f (txA y2):=fV_enc f (txA y2)
   refine XK.c ?_ ?_<;>intro h6
   ·have h6:f (txA y2)=none:=by rw[←ef];simpa using h6
    refine XK.weak (Weak.trans (Weak.steal 500 (k:=2) (s:=2*qs.length) (f':=fun _=>[]) hN rfl rfl rfl) (Weak.of (L:=[(6,.ptr 8 0),(7,.ptr 9 0),(8,.ptr 1 0),(9,.ptr 4 0),(11,.ptr 6 0),(12,.c (.int .i64 mn)),(13,.ptr 204 0),(14,.c (.string ⟨(txA y2).toArray⟩))])
      (O:=[(0,.lrec (recOf fn _ _ _ D .busy none) L csF),(1,.cells 107 [.c (.int .i64 p),.vec 500 0,.vec 3 0]),(2,.vec 50 5 (2*qs.length+1) 0 (fun _=>[])),(3,mvsO mv),(4,.cells 169 [.mp 5]),(5,fO f),(6,.cells 170 [.vec 7 (2*c.length)]),(7,mvO (2*c.length) c),
       (8,.cells 107 [.c (.int .i64 0),.c (.slice none 0 0),.c (.slice none 0 0)]),(9,.cells 32 [.c (.int .i64 0)]),(500,psO 0 qs),(204,.cells 50 (psC y2))]) (nx:=3000) (nt:=91) (md:=fun _=>false) hN rfl rfl rfl frI
      ⟨⟨rfl,rfl,rfl⟩,⟨rfl,congrArg (fun x=>[AV.c (.int .i64 p),x,AV.vec 3 0]) (show AV.map (stealG 2 (2*qs.length) 500) (.vec 2 (2*qs.length))=.vec 500 0 from stealG_self 2 (2*qs.length) 500)⟩,frI,frI,frI,frI,frI,frI,frI,frI,frI,frI⟩)) ?_
    refine XK.c ?_ ?_<;>intro h7<;>try simp at h7
    ·rw[had,if_pos ⟨h6,by omega⟩]
     refine XK.w ?_
     refine XK.weak (Weak.give (k:=2) (q:=500) (2*(qs.length+1)) hN rfl rfl rfl rfl (by show 2*qs.length+1<_;omega)) ?_
     (first|refine XK.outY [0,1,2,3,4,5,6,7,8,9] hN rfl rfl rfl ?_ ?_ ?_|refine XK.outYN [0,1,2,3,4,5,6,7,8,9] hN rfl rfl rfl ?_ ?_ ?_)
     ·exact frI
     ·rfl
     ·rfl
    ·have ha:addE ⟨qs,f,c⟩ (mn,y2)=⟨qs++[y2],fun u=>if u=txA y2 then some qs.length else f u,c++[(mn,qs.length)]⟩:=by unfold addE;dsimp only;rw[h6]
     rw[had,if_neg (fun q=>h7 (by omega)),ha]
     refine XK.weak (Weak.trans (Weak.steal 501 (k:=7) (s:=2*c.length) (f':=fun _=>[]) hN rfl rfl rfl) (Weak.of (L:=[(6,.ptr 8 0),(7,.ptr 9 0),(8,.ptr 1 0),(9,.ptr 4 0),(11,.ptr 6 0),(12,.c (.int .i64 mn)),(13,.ptr 204 0),(14,.c (.string ⟨(txA y2).toArray⟩)),(15,.c (.int .i64 qs.length))])
      (O:=[(0,.lrec (recOf fn _ _ _ D .busy none) L csF),(1,.cells 107 [.c (.int .i64 p),.vec 500 0,.vec 3 0]),(2,.vec 50 5 (2*qs.length+1) 0 (fun _=>[])),(3,mvsO mv),(4,.cells 169 [.mp 5]),(5,fO f),(6,.cells 170 [.vec 501 0]),(7,.vec 175 2 (2*c.length+1) 0 (fun _=>[])),
       (8,.cells 107 [.c (.int .i64 0),.c (.slice none 0 0),.c (.slice none 0 0)]),(9,.cells 32 [.c (.int .i64 0)]),(500,psO 0 qs),(501,mvO 0 c),(204,.cells 50 (psC y2))]) (nx:=4000) (nt:=91) (md:=fun _=>false) hN rfl rfl rfl frI
      ⟨⟨rfl,rfl,rfl⟩,frI,frI,frI,frI,frI,⟨rfl,congrArg (fun x=>[x]) (show stealG 7 (2*c.length) 501 (.vec 7 (2*c.length))=.vec 501 0 from stealG_self 7 (2*c.length) 501)⟩,frI,frI,frI,frI,frI,frI⟩)) ?_
     refine XK.w ?_
     refine XK.nilY (Weak.trans (Weak.give (k:=2) (q:=500) (2*(qs.length+1)) hN rfl rfl rfl rfl (by show 2*qs.length+1<_;omega)) (Weak.give (k:=7) (q:=501) (2*(c.length+1)) hN rfl rfl rfl rfl (by show 2*c.length+1<_;omega))) ?_
     (first|refine XK.outY [0,1,2,3,4,5,6,7,8,9] hN rfl rfl rfl ?_ ?_ ?_|refine XK.outYN [0,1,2,3,4,5,6,7,8,9] hN rfl rfl rfl ?_ ?_ ?_)
     ·exact⟨⟨rfl,rfl,rfl⟩,⟨rfl,by simp⟩,⟨⟨rfl,rfl,by simp⟩,by simp,row_snocD psC qs y2 _ rfl⟩,frI,frI,⟨rfl,rfl,fun v hv=>fO_put f (txA y2) qs.length v hv⟩,⟨rfl,by simp⟩,⟨⟨rfl,rfl,by simp⟩,by simp,row_snocD mvC c (mn,qs.length) _ rfl⟩,frI,frI⟩
     ·rfl
     ·rfl
   ·obtain⟨t,ht⟩:∃t,f (txA y2)=some t:=by
     cases hq:f (txA y2) with
     |none=>
      have h7:(!(fV f (.string ⟨(txA y2).toArray⟩)).isSome)=false:=h6
      rw[ef,hq] at h7
      cases h7
     |some t=>exact⟨t,rfl⟩
    have ha:addE ⟨qs,f,c⟩ (mn,y2)=⟨qs,f,c++[(mn,t)]⟩:=by unfold addE;dsimp only;rw[ht]
    rw[had,if_neg (fun q=>by rw[ht] at q;cases q.1),ha]
    refine XK.weak (Weak.trans (Weak.steal 501 (k:=7) (s:=2*c.length) (f':=fun _=>[]) hN rfl rfl rfl) (Weak.of (L:=[(6,.ptr 8 0),(7,.ptr 9 0),(8,.ptr 1 0),(9,.ptr 4 0),(11,.ptr 6 0),(12,.c (.int .i64 mn)),(15,.c (.int .i64 t))])
      (O:=[(0,.lrec (recOf fn _ _ _ D .busy none) L csF),(1,.cells 107 [.c (.int .i64 p),.vec 2 (2*qs.length),.vec 3 0]),(2,psO (2*qs.length) qs),(3,mvsO mv),(4,.cells 169 [.mp 5]),(5,fO f),(6,.cells 170 [.vec 501 0]),(7,.vec 175 2 (2*c.length+1) 0 (fun _=>[])),
       (8,.cells 107 [.c (.int .i64 0),.c (.slice none 0 0),.c (.slice none 0 0)]),(9,.cells 32 [.c (.int .i64 0)]),(501,mvO 0 c)]) (nx:=3000) (nt:=91) (md:=fun _=>false) hN rfl rfl rfl (by(repeat' (first|exact rfl|exact AvIs.refl _|exact trivial|exact fun _ _=>rfl|exact fun _ _=>⟨rfl,AvIs.refl _⟩|exact cI (by omega)|exact(cI (show(((fV f (.string ⟨(txA y2).toArray⟩)).getD 0:Nat):Int)=(t:Nat) by rw[ef,ht];rfl))|refine⟨?_,?_⟩)))
      ⟨⟨rfl,rfl,rfl⟩,frI,frI,frI,frI,frI,⟨rfl,congrArg (fun x=>[x]) (show stealG 7 (2*c.length) 501 (.vec 7 (2*c.length))=.vec 501 0 from stealG_self 7 (2*c.length) 501)⟩,frI,frI,frI,frI⟩)) ?_
    refine XK.w ?_
    refine XK.nilY (Weak.give (k:=7) (q:=501) (2*(c.length+1)) hN rfl rfl rfl rfl (by show 2*c.length+1<_;omega)) ?_
    (first|refine XK.outY [0,1,2,3,4,5,6,7,8,9] hN rfl rfl rfl ?_ ?_ ?_|refine XK.outYN [0,1,2,3,4,5,6,7,8,9] hN rfl rfl rfl ?_ ?_ ?_)
    ·exact⟨⟨rfl,rfl,rfl⟩,frI,frI,frI,frI,frI,⟨rfl,by simp⟩,⟨⟨rfl,rfl,by simp⟩,by simp,row_snocD mvC c (mn,t) _ rfl⟩,frI,frI⟩
    ·rfl
    ·rfl
 ·clear hmo1 hmo hrd
  by_cases h16:1500<S1.1.ps.length
  ·rw[if_pos h16] at hfr
   have hst:=hro.2 h16
   rw[hfr,if_neg (show ¬sE.2=false by rw[hst];simp),hst,if_pos rfl]
   show XK E (.code .ret::_) _ _
   refine XK.w ?_
   refine XK.q ?_
   rfl
  ·rw[if_neg h16] at hfr
   have hst:=hro.1 h16
   clear hsE hro
   subst hst
   rw[if_pos rfl]
   obtain⟨⟨qs,f,c⟩,mv2⟩:=S1
   dsimp only at hs1 h16 ⊢
   show XK E _ _ (ST.of _ [_,_,_,_,(212,psO (2*qs.length) qs),_,_,_,_,(1103,mvO (2*c.length) c)] _ _ _)
   refine XK.weak (Weak.trans (Weak.stamp (k:=212) (t:=0) hN rfl rfl) (Weak.trans (Weak.stamp (k:=1103) (t:=0) hN rfl rfl) (Weak.trans (Weak.of (L:=[(1,.c (.int .i64 p)),(3,.ptr 3 0),(6,.ptr 6 0),(7,.ptr 7 0),(8,.ptr 190 0),(9,.ptr 282 0),(10,.c (.int .i64 i)),(11,.ptr 1102 0)])
    (O:=[(3,.cells 27 (kC k)),(6,.cells 107 [.c (.int .i64 0),.c (.slice none 0 0),.c (.slice none 0 0)]),(7,.cells 32 [.c (.int .i64 0)]),(190,.cells 107 [.c (.int .i64 p),.vec 212 0,.vec 700 0]),(212,psO 0 qs),(700,mvsO mv),(282,.cells 169 [.mp 305]),(305,fO f),(1102,.cells 170 [.vec 1103 0]),(1103,mvO 0 c)])
    (nx:=5000) (nt:=91) (md:=fun d=>Nat.beq d 30) hN rfl rfl rfl frI ⟨frI,frI,frI,⟨rfl,congrArg (fun x=>[AV.c (.int .i64 p),x,AV.vec 700 0]) (show AV.map (stampG 1103 (2*c.length) 0) (AV.map (stampG 212 (2*qs.length) 0) (.vec 212 (2*qs.length)))=.vec 212 0 by rw[show AV.map (stampG 212 (2*qs.length) 0) (.vec 212 (2*qs.length))=.vec 212 0 from stampG_self 212 (2*qs.length) 0];rfl)⟩,frI,frI,frI,frI,⟨rfl,congrArg (fun x=>[x]) (show AV.map (stampG 1103 (2*c.length) 0) (.vec 1103 (2*c.length))=.vec 1103 0 from stampG_self 1103 (2*c.length) 0)⟩,frI⟩)
    (Weak.trans (Weak.frozen (k:=1103) hN rfl rfl) (Weak.of (L:=[(1,.c (.int .i64 p)),(3,.ptr 3 0),(6,.ptr 6 0),(7,.ptr 7 0),(8,.ptr 190 0),(9,.ptr 282 0),(10,.c (.int .i64 i)),(11,.ptr 1102 0)])
    (O:=[(3,.cells 27 (kC k)),(6,.cells 107 [.c (.int .i64 0),.c (.slice none 0 0),.c (.slice none 0 0)]),(7,.cells 32 [.c (.int .i64 0)]),(190,.cells 107 [.c (.int .i64 p),.vec 212 0,.vec 700 0]),(212,psO 0 qs),(700,mvsO mv),(282,.cells 169 [.mp 305]),(305,fO f),(1102,.cells 170 [rowL mvC 2 c])])
    (nx:=6000) (nt:=91) (md:=fun d=>Nat.beq d 30) hN rfl rfl rfl frI frI))))) ?_
   refine XK.w ?_
   refine XK.inv ⟨i+1,?_,?_,by omega⟩
   ·rw[hS1]
    dsimp only
    have:=arT_grow k p x i
    rw[hS0,hS1] at this
    dsimp only at this
    exact⟨by omega,by omega,hij',hfr⟩
   ·rw[hS1]
    dsimp only
    rw[hs1]
    exact Weak.trans (Weak.stamp (k:=700) (t:=0) hN rfl rfl) (Weak.of hN rfl rfl rfl frV ⟨frI,frI,frI,frI,frI,⟨⟨rfl,rfl,rfl⟩,by simp,row_snocD (fun l=>[rowL mvC 2 l]) mv c _ rfl⟩,frI,frI⟩)
end
section
open Go.Eng Go.RowKit Go.Lib
structure AW (k:K) (p:Int) (s:ArS):Prop where
 party:0≤p∧p<k.parties
 len:s.2.length=s.1.ps.length
 max:s.1.ps.length≤1500
 lt:∀j,j<s.1.ps.length→∀m∈s.2.getD j [],m.2<s.1.ps.length
 row:∀j,j<s.1.ps.length→(s.2.getD j []).length≤100
 valid:∀j,j<s.1.ps.length→validS k (psAt s.1.ps j).1=true
theorem rlost_ok (k:K) (hF:KFacts k) (s:St) (hs:s.marks.length=k.clauses.length) (p:Int):Does Tryz.prog 134 [kV k,stV s,.c (.int .i64 p)] (.c (.bool (lostS k s p))):=by
 have b3:=hF.nc
 refine Does.mk (fun _=>false) TT_ok Tryz.func134 rfl (by kernel_rfl) Tryz.ntmps134 rfl rfl fun E hT hE hN hR=>?_
 have hm:=mixO hE
 refine XK.w ?_
 unfold lostS
 refine XK.loop (ι:=Nat) (fun i=>ST.of [(2,.c (.int .i64 p)),(3,.ptr 3 0),(10,rowL mkC 5 s.marks),(11,.c (.int .i64 s.marks.length)),(12,.c (.int .i64 i))] [(3,.cells 27 (kC k))] 1000 35 (fun _=>false))
  (fun i=>i≤s.marks.length∧∀q,q<i→((clAt k q).final&&(s.marks.getD q default).status==4&&(s.marks.getD q default).bearer==p)=false) (fun i=>s.marks.length-i) 0 ⟨Nat.zero_le _,fun q hq=>absurd hq (Nat.not_lt_zero _)⟩
  (Weak.of hN rfl rfl rfl frI frI) fun i hi=>?_
 obtain⟨hi1,hi2⟩:=hi
 refine XK.c ?_ ?_<;>intro hlt<;>try simp at hlt
 ·have hic:i<k.clauses.length:=by omega
  have f1:s.marks.getD (i:Int).toNat default=s.marks.getD i default:=rfl
  have fc:k.clauses.getD (i:Int).toNat default=clAt k i:=rfl
  refine XK.w ?_
  try rw[f1]
  try rw[fc]
  refine XK.c ?_ ?_<;>intro hb
  ·rw[show(List.range s.marks.length).any (fun i=>(clAt k i).final&&(s.marks.getD i default).status==4&&(s.marks.getD i default).bearer==p)=true from List.any_eq_true.2 ⟨i,by simpa using hlt,by simpa using hb⟩]
   refine XK.w ?_
   refine XK.q ?_
   rfl
  ·refine XK.w ?_
   refine XK.inv ⟨i+1,⟨hlt,fun q hq=>?_⟩,(Weak.of hN rfl rfl rfl frI frI),by omega⟩
   by_cases hqi:q=i
   ·subst hqi;exact hb
   ·exact hi2 q (by omega)
 ·rw[show(List.range s.marks.length).any (fun i=>(clAt k i).final&&(s.marks.getD i default).status==4&&(s.marks.getD i default).bearer==p)=false from by
   rw[List.any_eq_false]
   intro q hq
   rw[hi2 q (by have:=List.mem_range.1 hq;omega)]
   simp]
  refine XK.w ?_
  refine XK.q ?_
  rfl
theorem wellFormed_ok (k:K) (hk:kW k) (p:Int) (s:ArS) (h:AW k p s):Does Tryz.prog 133 [kV k,arV p s] (.c (.bool true)):=by
 obtain⟨h1,h2,h3,h4,h5,h6⟩:=h
 obtain⟨⟨ps,fnd,cur⟩,mv⟩:=s
 dsimp only at*
 refine Does.mk (fun _=>false) TT_ok Tryz.func133 rfl (by kernel_rfl) Tryz.ntmps133 rfl rfl fun E hT hE hN hR=>?_
 have hm:=mixO hE
 refine XK.c ?_ ?_<;>intro hb
 ·exfalso
  simp at hb
  omega
 refine XK.w ?_
 refine XK.loop (ι:=Nat) (fun i=>ST.of [(2,.ptr 2 0),(3,.ptr 3 0),(29,rowL psC 5 ps),(30,.c (.int .i64 ps.length)),(31,.c (.int .i64 i))] [(2,.cells 27 (kC k)),(3,.cells 107 [.c (.int .i64 p),rowL psC 5 ps,rowL (fun l=>[rowL mvC 2 l]) 1 mv])] 1000 64 (fun _=>false))
  (fun i=>i≤ps.length) (fun i=>ps.length-i) 0 (Nat.zero_le _) (Weak.of hN rfl rfl rfl frI frI) fun i hi=>?_
 refine XK.c ?_ ?_<;>intro hlt<;>try simp at hlt
 ·have hlt:i<ps.length:=by omega
  have fx:psAt ps (i:Int).toNat=psAt ps i:=rfl
  have fy:mv.getD (i:Int).toNat []=mv.getD i []:=rfl
  have h4:=h4 i hlt
  have h5:=h5 i hlt
  have hv:=validS_ok k hk (psAt ps i).1
  rw[h6 i hlt] at hv
  have fp:ps.getD (i:Int).toNat default=psAt ps i:=rfl
  have fm:mv.getD (i:Int).toNat default=mv.getD i []:=rfl
  refine XK.w ?_
  try rw[fp]
  try rw[fm]
  generalize psAt ps i=y at*
  generalize mv.getD i []=L at*
  refine XK.w ?_
  try rw[fm]
  refine XK.loop (ι:=Nat) (fun j=>ST.of [(2,.ptr 2 0),(3,.ptr 3 0),(6,.ptr 1070 0),(29,rowL psC 5 ps),(30,.c (.int .i64 ps.length)),(31,.c (.int .i64 i)),(40,rowL mvC 2 L),(41,.c (.int .i64 L.length)),(42,.c (.int .i64 j))] [(2,.cells 27 (kC k)),(3,.cells 107 [.c (.int .i64 p),rowL psC 5 ps,rowL (fun l=>[rowL mvC 2 l]) 1 mv]),(1070,.cells 50 (psC y))] 3000 64 (fun _=>false))
   (fun j=>j≤L.length) (fun j=>L.length-j) 0 (Nat.zero_le _) (Weak.of hN rfl rfl rfl frI frI) fun j hj=>?_
  refine XK.c ?_ ?_<;>intro hjl<;>try simp at hjl
  ·have hjl:j<L.length:=by omega
   have fz:L.getD (j:Int).toNat default=L.getD j default:=rfl
   have hm4:=h4 (L.getD j default) (by rw[List.getD_eq_getElem?_getD,List.getElem?_eq_getElem hjl];exact List.getElem_mem hjl)
   refine XK.w ?_
   rw[fz]
   generalize L.getD j default=m at*
   refine XK.c ?_ ?_<;>intro hb2
   ·exfalso
    simp at hb2
    omega
   ·refine XK.w ?_
    exact XK.inv ⟨j+1,hjl,(Weak.of hN rfl rfl rfl frI frI),by omega⟩
  ·refine XK.w ?_
   refine XK.r ?_
   refine XL.callKA hE rfl rfl rfl rfl trivial rfl rfl (hv) ?_
   refine XL.e ?_
   refine XK.c ?_ ?_<;>intro hb3
   ·cases hb3
   ·refine XK.w ?_
    exact XK.inv ⟨i+1,hlt,(Weak.of hN rfl rfl rfl frI frI),by omega⟩
 ·refine XK.w ?_
  refine XK.q ?_
  rfl
end
section
open Go.Eng Go.RowKit Go.Lib
theorem _root_.Go.Eng.XK.nilM {E:Env} {T:TE} {rs:List ResultVar} {res:AV} {O':List Ob} {st st':ST} (hw:Weak E st st') (h:XK E [] (RetM E T rs res O') st'):XK E [] (RetM E T rs res O') st:=by
 obtain⟨h1,st2,x,h2,h3⟩:=(show RetM E T rs res O' .normal st' from h)
 exact XK.nil ⟨h1,st2,x,Weak.trans hw h2,h3⟩
def rkO (s n:Nat) (f:Nat→Int):Ob:=.vec 3 1 s n (fun j=>[.c (.int .i64 (f j))])
def itO (s:Nat) (l:List Nat):Ob:=.vec 3 1 s l.length (fun j=>[.c (.int .i64 (l.getD j default:Nat))])
theorem push_ok (l:List Nat) (m i:Nat) (hl:l.length≤100000):DoesM Tryz.prog 135 [.ptr 0 0,.c (.int .i64 i)] [.cells 232 [.vec 1 0,.c (.int .i64 m)],itO 0 l] (.tup []) [.cells 232 [.vec 1 1,.c (.int .i64 m)],itO 1 (l++[i])]:=by
 have hlen:(l++[i]).length=l.length+1:=by simp
 unfold itO
 rw[hlen]
 refine DoesM.mk (fun _=>false) 100 TT_ok Tryz.func135 rfl (by kernel_rfl) Tryz.ntmps135 rfl rfl rfl fun E hT hE hN hR=>?_
 have hm:=mixO hE
 refine XK.w ?_
 refine XK.t [0,1] ?_ ?_
 ·(repeat' (first|exact rfl|exact AvIs.refl _|exact trivial|exact fun _ _=>rfl|exact fun _ _=>⟨rfl,AvIs.refl _⟩|exact cI (by omega)|exact(row_snocD (fun j:Nat=>[AV.c (.int .i64 (j:Nat))]) l i _ rfl)|refine⟨?_,?_⟩))
 ·exact frI
theorem pop_ok (l:List Nat) (m:Nat) (hl:l.length≤100000) (hm1:m≤l.length):DoesM Tryz.prog 138 [.ptr 0 0] [.cells 232 [.vec 1 0,.c (.int .i64 m)],itO 0 l] (if m=l.length then .tup [.c (.int .i64 0),.c (.bool false)] else .tup [.c (.int .i64 (l.getD m default:Nat)),.c (.bool true)]) [.cells 232 [.vec 1 0,.c (.int .i64 (if m=l.length then m else m+1:Nat))],itO 0 l]:=by
 unfold itO
 refine DoesM.mk (fun _=>false) 100 TT_ok Tryz.func138 rfl (by kernel_rfl) Tryz.ntmps138 rfl rfl rfl fun E hT hE hN hR=>?_
 have hm:=mixO hE
 refine XK.c ?_ ?_<;>intro h1<;>try simp at h1
 ·have h1:m=l.length:=by omega
  rw[if_pos h1,if_pos h1]
  refine XK.w ?_
  refine XK.t [0,1] ?_ ?_
  ·exact frI
  ·exact frI
 ·have h1:¬m=l.length:=by omega
  rw[if_neg h1,if_neg h1]
  have fx:l.getD ((m:Int)+1-1).toNat default=l.getD m default:=by congr 1;omega
  refine XK.w ?_
  try rw[fx]
  refine XK.t [0,1] ?_ ?_
  ·exact frI
  ·exact frI
theorem rk_set (n:Nat) (f:Nat→Int) (i:Nat) (r:Int) (h:Nat→List AV) (hh:h=setRowF (fun j=>[.c (.int .i64 (f j))]) (i:Int).toNat 0 [.c (.int .i64 r)]):∀j,j<n→[AV.c (.int .i64 (if j=i then r else f j))]=h j:=by
 intro j _
 subst hh
 unfold setRowF
 have e:(i:Int).toNat=i:=by omega
 rw[e]
 by_cases q:j=i
 ·subst q
  rw[if_pos rfl,show Nat.beq j j=true by simp,cond_true]
  rfl
 ·rw[if_neg q,beq_false q,cond_false]
structure RkB (n:Nat) (s:Rk):Prop where
 max:n≤1500
 it:s.it.length≤100000
 rk:∀j,j<n→-1≤s.rk j∧s.rk j≤100000
 op:∀j,j<n→-1000000≤s.op j∧s.op j≤1000000
theorem settle_ok (n:Nat) (s:Rk) (hb:n≤1500) (hit:s.it.length≤100000) (m i:Nat) (hi:i<n) (r:Int):DoesM Tryz.prog 136 [.c (.int .i64 i),.c (.int .i64 r),.ptr 0 0,.ptr 2 0] [.cells 22 [.vec 1 0],rkO 0 n s.rk,.cells 232 [.vec 3 0,.c (.int .i64 m)],itO 0 s.it] (.tup []) [.cells 22 [.vec 1 0],rkO 0 n (s.settle i r).rk,.cells 232 [.vec 3 1,.c (.int .i64 m)],itO 1 (s.settle i r).it]:=by
 have hp:=push_ok s.it m i hit
 obtain⟨rk,op,it⟩:=s
 unfold Rk.settle
 dsimp only at*
 refine DoesM.mk (fun _=>false) 100 TT_ok Tryz.func136 rfl (by kernel_rfl) Tryz.ntmps136 rfl rfl rfl fun E hT hE hN hR=>?_
 have hm:=mixO hE
 refine XK.w ?_
 refine XK.r ?_
 refine XL.callMA [2,3] hE rfl rfl rfl rfl trivial (hp) rfl rfl rfl rfl rfl ?_
 refine XL.e ?_
 refine XK.t [0,1,2,3] ?_ ?_
 ·exact⟨frI,⟨⟨rfl,rfl,rfl⟩,rfl,rk_set n rk i r _ rfl⟩,frI,frI⟩
 ·exact frI
def bkO (n:Nat) (s:Rk) (m t:Nat):List Ob:=[.cells 22 [.vec 1 0],rkO 0 n s.op,.cells 22 [.vec 3 0],rkO 0 n s.rk,.cells 232 [.vec 5 t,.c (.int .i64 m)],itO t s.it,.cells 205 [.fn (.func 136) [] [.ptr 2 0,.ptr 4 0]]]
theorem back_ok (p:Int) (A:ArS) (s:Rk) (hs:RkB A.1.ps.length s) (m to frm:Nat) (hto:to<A.1.ps.length) (hfr:frm<A.1.ps.length):
  DoesM Tryz.prog 137 [.c (.int .i64 frm),.c (.int .i64 to),.ptr 0 0,.ptr 2 0,.rptr (arC p A),.ptr 6 0] (bkO A.1.ps.length s m 0) (.tup []) (bkO A.1.ps.length (backR (fun i=>(psAt A.1.ps i).2) s to frm) m 2):=by
 have hb:=hs.max
 have h1:=hs.op frm hfr
 have h2:=hs.rk to hto
 have hit:=hs.it
 have hse:=settle_ok A.1.ps.length (s.less frm) hs.max hs.it m frm hfr (s.rk to+1)
 obtain⟨⟨ps,fnd,cur⟩,mv⟩:=A
 dsimp only at*
 refine DoesM.mk (fun _=>false) 100 TT_ok Tryz.func137 rfl (by kernel_rfl) Tryz.ntmps137 rfl rfl rfl fun E hT hE hN hR=>?_
 have hm:=mixO hE
 refine XK.weak (Weak.trans (Weak.steal 500 (k:=5) (s:=0) (f':=fun _=>[]) hN rfl rfl rfl) (Weak.of (L:=[(0,.c (.int .i64 frm)),(1,.c (.int .i64 to)),(2,.ptr 0 0),(3,.ptr 2 0),(4,.rptr (arC p (⟨ps,fnd,cur⟩,mv))),(5,.ptr 6 0)])
  (O:=[(0,.cells 22 [.vec 1 0]),(1,rkO 0 ps.length s.op),(2,.cells 22 [.vec 3 0]),(3,rkO 0 ps.length s.rk),(4,.cells 232 [.vec 500 0,.c (.int .i64 m)]),(5,.vec 3 1 1 0 (fun _=>[])),(6,.cells 205 [.fn (.func 136) [] [.ptr 2 0,.ptr 4 0]]),(500,itO 0 s.it)]) (nx:=1000) (nt:=43) (md:=fun _=>false) hN rfl rfl rfl frI frI)) ?_
 have f1:s.op (frm:Int).toNat=s.op frm:=rfl
 have f2:s.rk (frm:Int).toNat=s.rk frm:=rfl
 have f3:s.rk (to:Int).toNat=s.rk to:=rfl
 have f4:psAt ps (frm:Int).toNat=psAt ps frm:=rfl
 refine XK.w ?_
 refine XK.weak (Weak.of (L:=[(0,.c (.int .i64 frm)),(1,.c (.int .i64 to)),(2,.ptr 0 0),(3,.ptr 2 0),(4,.rptr (arC p (⟨ps,fnd,cur⟩,mv))),(5,.ptr 6 0)])
  (O:=[(0,.cells 22 [.vec 1 0]),(1,rkO 0 ps.length (s.less frm).op),(2,.cells 22 [.vec 3 0]),(3,rkO 0 ps.length s.rk),(4,.cells 232 [.vec 500 0,.c (.int .i64 m)]),(5,.vec 3 1 1 0 (fun _=>[])),(6,.cells 205 [.fn (.func 136) [] [.ptr 2 0,.ptr 4 0]]),(500,itO 0 s.it)]) (nx:=2000) (nt:=43) (md:=fun _=>false) hN rfl rfl rfl frI
  ⟨frI,⟨⟨rfl,rfl,rfl⟩,rfl,fun j hj=>by
   refine Eq.trans ?_ (rk_set ps.length s.op frm (s.op frm-1) _ rfl j hj)
   show[AV.c (.int .i64 (if j=frm then s.op j-1 else s.op j))]=_
   by_cases q:j=frm
   ·rw[if_pos q,if_pos q,q]
   ·rw[if_neg q,if_neg q]⟩,frI,frI,frI,frI,frI,frI⟩) ?_
 unfold backR
 have e1:(s.less frm).rk=s.rk:=rfl
 have e2:(s.less frm).it=s.it:=rfl
 generalize s.less frm=s1 at*
 obtain⟨rk1,op1,it1⟩:=s1
 dsimp only at e1 e2 ⊢
 subst e1 e2
 have fo:ps.getD (frm:Int).toNat default=psAt ps frm:=rfl
 refine XK.c ?_ ?_<;>intro h5
 ·have h5:s.rk frm=-1∧((psAt ps frm).2=false∨op1 frm=0):=by
   have h5:(s.rk frm==-1&&(!(psAt ps frm).2||(op1 frm==0)))=true:=h5
   simpa using h5
  rw[if_pos h5]
  refine XK.s ?_
  rw[f3]
  refine XD.callMA [2,3,4,500] hE rfl rfl rfl rfl trivial (hse) rfl rfl rfl rfl rfl ?_
  refine XD.e ?_
  refine XK.nilM (Weak.give (k:=5) (q:=500) 2 hN rfl rfl rfl rfl (by show 1<2;omega)) ?_
  refine XK.t [0,1,2,3,4,5,6] ?_ ?_
  ·exact frI
  ·exact frI
 ·have h5:¬(s.rk frm=-1∧((psAt ps frm).2=false∨op1 frm=0)):=by
   have h5:(s.rk frm==-1&&(!(psAt ps frm).2||(op1 frm==0)))=false:=h5
   intro q
   simp[q.1] at h5
   rcases q.2 with q|q
   ·rw[h5.1] at q;cases q
   ·exact h5.2 q
  rw[if_neg h5]
  refine XK.weak (Weak.give (k:=5) (q:=500) 2 hN rfl rfl rfl rfl (by show 1<2;omega)) ?_
  refine XK.w ?_
  refine XK.t [0,1,2,3,4,5,6] ?_ ?_
  ·exact frI
  ·exact frI
end
section
open Go.Eng Go.RowKit Go.Lib
def mvN (A:ArS) (j:Nat):List Nat:=(A.2.getD j []).map (·.2)
def ownN (A:ArS) (j:Nat):Bool:=(psAt A.1.ps j).2
noncomputable def lostN (k:K) (p:Int) (A:ArS) (j:Nat):Bool:=lostS k (psAt A.1.ps j).1 p
def addN (g:Nat→List Nat) (t i:Nat):Nat→List Nat:=fun u=>if u=t then g u++[i] else g u
def rowJ (g:Nat→List Nat) (i:Nat) (L:List (Int×Nat)):Nat→Nat→List Nat
 |0=>g
 |j+1=>addN (rowJ g i L j) (L.getD j default).2 i
def befA (A:ArS) (i:Nat):Nat→List Nat:=fun t=>befL (mvN A) t i
def famN (g:Nat→List Nat) (t:Nat):Nat×(Nat→List AV):=((g t).length,fun q=>[.c (.int .i64 ((g t).getD q default:Nat))])
theorem rowJ_at (g:Nat→List Nat) (i:Nat) (L:List (Int×Nat)) (t:Nat):∀j,j≤L.length→rowJ g i L j t=g t++List.replicate (((L.take j).map (·.2)).count t) i
 |0,_=>by simp[rowJ]
 |j+1,hj=>by
  have ih:=rowJ_at g i L t j (by omega)
  have hlt:j<L.length:=by omega
  have e:L.getD j default=L[j]:=by rw[List.getD_eq_getElem?_getD,List.getElem?_eq_getElem hlt];rfl
  rw[rowJ,addN,List.take_add_one,List.getElem?_eq_getElem hlt,List.map_append,List.count_append,ih,e]
  by_cases h:t=L[j].2
  ·have:(List.map (fun x:Int×Nat=>x.2) (some L[j]).toList).count t=1:=by
    simp only[Option.toList_some,List.map_cons,List.map_nil]
    rw[←h,List.count_singleton,if_pos (by simp)]
   rw[if_pos h,this,List.replicate_succ',List.append_assoc]
  ·rw[if_neg h]
   have:(List.map (fun x:Int×Nat=>x.2) (some L[j]).toList).count t=0:=by
    simp only[Option.toList_some,List.map_cons,List.map_nil,List.count_cons,List.count_nil]
    rw[if_neg (by simpa using fun q=>h q.symm)]
   rw[this,Nat.add_zero]
theorem rowJ_all (A:ArS) (i:Nat):rowJ (befA A i) i (A.2.getD i []) (A.2.getD i []).length=befA A (i+1):=by
 funext t
 rw[rowJ_at _ _ _ _ _ (Nat.le_refl _),List.take_length]
 rfl
theorem rowJ_len (g:Nat→List Nat) (i:Nat) (L:List (Int×Nat)) (m:Nat) (h:∀t,(g t).length≤m):∀j t,(rowJ g i L j t).length≤m+j
 |0,t=>h t
 |j+1,t=>by
  have ih:=rowJ_len g i L m h j t
  rw[rowJ,addN]
  split
  ·rw[List.length_append,List.length_singleton];omega
  ·omega
theorem befA_len (A:ArS) (h:∀j,j<A.1.ps.length→(A.2.getD j []).length≤100):∀i,i≤A.1.ps.length→∀t,(befA A i t).length≤100*i
 |0,_,t=>Nat.le_refl _
 |i+1,hi,t=>by
  have ih:=befA_len A h i (by omega) t
  have hl:=h i (by omega)
  have hc:=List.count_le_length (a:=t) (l:=mvN A i)
  have e:(mvN A i).length=(A.2.getD i []).length:=by unfold mvN;rw[List.length_map]
  show(befL (mvN A) t i++List.replicate ((mvN A i).count t) i).length≤_
  have ih:(befL (mvN A) t i).length≤100*i:=ih
  rw[List.length_append,List.length_replicate]
  omega
section
variable (k:K) (p:Int) (A:ArS)
noncomputable def rk1 (i:Nat):Rk:=⟨fun j=>if j<i then(if lostN k p A j=true then 0 else -1) else 0,fun j=>if j<i then((mvN A j).length:Int) else 0,(List.range i).filter (lostN k p A)⟩
noncomputable def endN (j:Nat):Bool:=ownN A j&&(mvN A j).isEmpty&&!lostN k p A j
noncomputable def rk2 (i:Nat):Rk:=⟨fun j=>if j<A.1.ps.length∧lostN k p A j=true then 0 else if j<i∧endN k p A j=true then 1 else -1,fun j=>((mvN A j).length:Int),(List.range A.1.ps.length).filter (lostN k p A)++(List.range i).filter (endN k p A)⟩
noncomputable def rkM (m:Nat):Rk:=rkT A.1.ps.length (ownN A) (mvN A) (rk2 k p A A.1.ps.length) m
end
section
variable {k:K} {p:Int} {A:ArS}
theorem rk2_all:RAll A.1.ps.length (ownN A) (lostN k p A) (mvN A) (rk2 k p A A.1.ps.length) 0 []:=by
 have hmem:∀i,i∈(rk2 k p A A.1.ps.length).it↔i<A.1.ps.length∧(lostN k p A i=true∨endN k p A i=true):=fun i=>by
  show i∈_++_↔_
  rw[List.mem_append,List.mem_filter,List.mem_filter,List.mem_range]
  constructor
  ·rintro (q|q)
   ·exact⟨q.1,.inl q.2⟩
   ·exact⟨q.1,.inr q.2⟩
  ·rintro⟨q,r|r⟩
   ·exact .inl ⟨q,r⟩
   ·exact .inr ⟨q,r⟩
 have hend:∀i,lostN k p A i=false→(endN k p A i=true↔ownN A i=true∧mvN A i=[]):=fun i h=>by
  unfold endN
  rw[h]
  simp
 refine RAll.begin ?_ (fun i=>?_) (fun i=>?_) (fun i _=>rfl)
 ·show(List.filter _ _++List.filter _ _).Nodup
  rw[List.nodup_append]
  refine⟨List.nodup_range.filter _,List.nodup_range.filter _,fun a ha b hb e=>?_⟩
  subst e
  have h1:=(List.mem_filter.1 ha).2
  have h2:=(List.mem_filter.1 hb).2
  unfold endN at h2
  rw[h1] at h2
  simp at h2
 ·rw[hmem]
  cases hl:lostN k p A i with
  |true=>simp
  |false=>rw[hend i hl]
 ·show(if _ then _ else _)=_
  cases hl:lostN k p A i with
  |true=>
   by_cases h:i<A.1.ps.length
   ·rw[if_pos ⟨h,rfl⟩,if_pos ⟨h,rfl⟩]
   ·rw[if_neg (fun q=>h q.1),if_neg (fun q=>h q.1),if_neg (fun q=>h q.1),if_neg (fun q=>h q.1)]
  |false=>
   simp only[Bool.false_eq_true,and_false,if_false]
   have:=hend i hl
   by_cases h:i<A.1.ps.length<;>by_cases h2:endN k p A i=true
   ·rw[if_pos ⟨h,h2⟩,if_pos ⟨h,this.1 h2⟩]
   ·rw[if_neg (fun q=>h2 q.2),if_neg (fun q=>h2 (this.2 q.2))]
   ·rw[if_neg (fun q=>h q.1),if_neg (fun q=>h q.1)]
   ·rw[if_neg (fun q=>h q.1),if_neg (fun q=>h q.1)]
theorem rkM_succ (m:Nat):rkM k p A (m+1)=if m<(rkM k p A m).it.length then procR (ownN A) ((rkM k p A m).it.getD m 0) (rkM k p A m) (befL (mvN A) ((rkM k p A m).it.getD m 0) A.1.ps.length) else rkM k p A m:=rfl
theorem rkM_all:∀m,(∀q,q<m→q<(rkM k p A q).it.length)→∃E,RAll A.1.ps.length (ownN A) (lostN k p A) (mvN A) (rkM k p A m) m E
 |0,_=>⟨[],rk2_all⟩
 |m+1,h=>by
  obtain⟨E,hE⟩:=rkM_all m fun q hq=>h q (by omega)
  have hm:=h m (by omega)
  rw[rkM_succ,if_pos hm]
  exact⟨_,hE.next hm⟩
theorem rkM_stop {m:Nat} (h:¬m<(rkM k p A m).it.length):∀q,m≤q→rkM k p A q=rkM k p A m:=by
 intro q hq
 induction q with
 |zero=>have:m=0:=by omega
        rw[this]
 |succ q ih=>
  by_cases e:m=q+1
  ·rw[e]
  ·have ih:=ih (by omega)
   rw[rkM_succ,ih,if_neg (by omega)]
theorem inv_len {n:Nat} {own lost:Nat→Bool} {mv:Nat→List Nat} {s:Rk} {pr E:List Nat} (h:RInv n own lost mv s pr E):s.it.length≤n:=by
 have:=nodup_len h.nodup (r:=List.range n) fun x hx=>List.mem_range.2 ((h.mem x).1 hx).1
 rwa[List.length_range] at this
theorem back_rk {own:Nat→Bool} {s:Rk} {to f:Nat} (h:∀j,s.rk j≤s.it.length):∀j,(backR own s to f).rk j≤(backR own s to f).it.length:=by
 intro j
 unfold backR
 split
 ·show(if j=f then s.rk to+1 else s.rk j)≤((s.it++[f]).length:Int)
  have h1:=h to
  have h2:=h j
  rw[List.length_append,List.length_singleton]
  split<;>omega
 ·exact h j
theorem proc_rk {own:Nat→Bool} {to:Nat}:∀(fs:List Nat) {s:Rk},(∀j,s.rk j≤s.it.length)→∀j,(procR own to s fs).rk j≤(procR own to s fs).it.length
 |[],_,h=>h
 |f::fs,_,h=>proc_rk fs (back_rk h)
theorem rkM_rk:∀m j,(rkM k p A m).rk j≤(rkM k p A m).it.length
 |0,j=>by
  have hI:=(rk2_all (k:=k) (p:=p) (A:=A)).inv
  show(rk2 k p A A.1.ps.length).rk j≤(rk2 k p A A.1.ps.length).it.length
  by_cases h:j∈(rk2 k p A A.1.ps.length).it
  ·have:=List.length_pos_of_mem h
   have h2:(rk2 k p A A.1.ps.length).rk j≤1:=by
    show(if _ then _ else _)≤_
    split
    ·omega
    ·split<;>omega
   omega
  ·have h2:(rk2 k p A A.1.ps.length).rk j≤0:=by
    show(if _ then _ else _)≤_
    split
    ·omega
    ·split
     ·rename_i q1 q
      exfalso
      refine h (List.mem_append.2 (.inr (List.mem_filter.2 ⟨List.mem_range.2 q.1,q.2⟩)))
     ·omega
   omega
 |m+1,j=>by
  rw[rkM_succ]
  split
  ·exact proc_rk _ (rkM_rk m) j
  ·exact rkM_rk m j
theorem procR_app (own:Nat→Bool) (to:Nat):∀(a b:List Nat) (s:Rk),procR own to s (a++b)=procR own to (procR own to s a) b
 |[],_,_=>rfl
 |_::a,b,s=>procR_app own to a b _
theorem rkM_part {m:Nat} (h:∀q,q<m→q<(rkM k p A q).it.length) (hm:m<(rkM k p A m).it.length) (h15:A.1.ps.length≤1500) (hrow:∀j,j<A.1.ps.length→(A.2.getD j []).length≤100):
  (rkM k p A m).it.getD m 0<A.1.ps.length∧∀q,q≤(befL (mvN A) ((rkM k p A m).it.getD m 0) A.1.ps.length).length→RkB A.1.ps.length (procR (ownN A) ((rkM k p A m).it.getD m 0) (rkM k p A m) ((befL (mvN A) ((rkM k p A m).it.getD m 0) A.1.ps.length).take q)):=by
 obtain⟨E,hE⟩:=rkM_all m h
 have hto:(rkM k p A m).it.getD m 0∈(rkM k p A m).it:=by
  rw[List.getD_eq_getElem?_getD,List.getElem?_eq_getElem hm];exact List.getElem_mem hm
 have hrk:=rkM_rk (k:=k) (p:=p) (A:=A) m
 have hlt:=((hE.inv.mem _).1 hto).1
 refine⟨hlt,fun q hq=>?_⟩
 have hnext:=hE.next hm
 generalize (rkM k p A m).it.getD m 0=to at*
 generalize rkM k p A m=s at*
 have hinv:RInv A.1.ps.length (ownN A) (lostN k p A) (mvN A) s (List.range A.1.ps.length) E→True:=fun _=>trivial
 have hcnt:∀f,f<A.1.ps.length→(E++befL (mvN A) to A.1.ps.length).count f≤(mvN A f).length:=fun f hf=>by
  rw[hnext.cnt f hf]
  exact List.countP_le_length
 have hop:∀(fs:List Nat) (s:Rk),(∀f∈fs,f<A.1.ps.length)→∀j,(procR (ownN A) to s fs).op j=s.op j-(fs.count j:Nat):=by
  intro fs
  induction fs with
  |nil=>intro s _ j;simp[procR]
  |cons f fs ih=>
   intro s hf j
   rw[procR,ih _ (fun x hx=>hf x (List.mem_cons_of_mem _ hx)) j,List.count_cons]
   have:(backR (ownN A) s to f).op j=if j=f then s.op j-1 else s.op j:=by
    unfold backR
    split<;>rfl
   rw[this]
   by_cases e:j=f
   ·rw[if_pos e,if_pos (by simpa using e.symm)];omega
   ·rw[if_neg e,if_neg (by simpa using fun q=>e q.symm)];omega
 have hfl:=befL_lt to (mv:=mvN A) A.1.ps.length
 have htk:∀f∈(befL (mvN A) to A.1.ps.length).take q,f<A.1.ps.length:=fun f hf=>hfl f (List.mem_of_mem_take hf)
 obtain⟨l,hl⟩:=proc_it (ownN A) to ((befL (mvN A) to A.1.ps.length).drop q) (procR (ownN A) to s ((befL (mvN A) to A.1.ps.length).take q))
 rw[←procR_app,List.take_append_drop] at hl
 have hlen:=inv_len hnext.inv
 rw[hl,List.length_append] at hlen
 have hr2:=proc_rk (own:=ownN A) (to:=to) ((befL (mvN A) to A.1.ps.length).take q) hrk
 have hge:∀(fs:List Nat) (s:Rk),(∀j,-1≤s.rk j)→∀j,-1≤(procR (ownN A) to s fs).rk j:=by
  intro fs
  induction fs with
  |nil=>exact fun s h=>h
  |cons f fs ih=>
   intro s h
   refine ih _ fun j=>?_
   unfold backR
   split
   ·show -1≤(if j=f then s.rk to+1 else s.rk j)
    have:=h to
    have:=h j
    split<;>omega
   ·exact h j
 refine⟨h15,by omega,fun j hj=>⟨hge _ _ hE.inv.ge j,?_⟩,fun j hj=>?_⟩
 ·have:=hr2 j;omega
 ·rw[hop _ _ htk j,hE.inv.op j hj]
  have h1:=hcnt j hj
  rw[List.count_append] at h1
  have h2:((befL (mvN A) to A.1.ps.length).take q).count j≤(befL (mvN A) to A.1.ps.length).count j:=by
   conv=>rhs;rw[←List.take_append_drop q (befL (mvN A) to A.1.ps.length),List.count_append]
   omega
  have h3:(mvN A j).length=(A.2.getD j []).length:=by unfold mvN;rw[List.length_map]
  have h4:=hrow j hj
  omega
theorem rkM_end (h:ArenaOk k p A.1.ps (mvN A)) {m:Nat} (hq:∀q,q<m→q<(rkM k p A q).it.length) (hm:m=(rkM k p A m).it.length):∀i,i<A.1.ps.length→((rkM k p A A.1.ps.length).rk i=-1↔SafeG k p (psAt A.1.ps i)):=by
 obtain⟨E,hE⟩:=rkM_all m hq
 have hl:=inv_len hE.inv
 rw[rkM_stop (m:=m) (by omega) A.1.ps.length (by omega)]
 exact fun i hi=>h.rank hE hm hi
end
end
end Go.Proofs.YtgpkkllbejgmlaaGreatDoor
