import Derived.Test.YtgpkkllbejgmlaaGreatDoorZz14
import Derived.Test.YtgpkkllbejgmlaaGreatDoorZz16
set_option linter.unusedSimpArgs false
set_option linter.unusedVariables false
set_option maxRecDepth 10000
namespace Go.Proofs.YtgpkkllbejgmlaaGreatDoor
section
open Go.Eng
theorem wstart_ok (k:K) (hk:KFacts k) (w:Wk):DoesM Tryz.prog 26 [.ptr 0 0] (wOs k w) (.tup []) (wOs k (startW k w)):=by
 refine DoesM.mk (fun _=>false) 100 TT_ok Tryz.func26 rfl (by kernel_rfl) Tryz.ntmps26 rfl rfl rfl fun E hT hE hN hR=>?_
 have hm:=mixO hE
 have hnc:=hk.nc
 refine XK.w ?_
 refine XK.loop (ι:=Nat×Wk×Bool) (fun q=>ST.of [(0,.ptr 0 0),(2,.c (.bool q.2.2))] (wN k q.2.1) 1000 53 (fun _=>false))
  (fun q=>(q.2.2=true→startN k q.1 q.2.1=startW k w∧idleN k q.2.1.mark<q.1)∧(q.2.2=false→q.2.1=startW k w)) (fun q=>if q.2.2=true then q.1+1 else 0) (idleN k w.mark+1,w,true)
  ⟨fun _=>⟨rfl,Nat.lt_succ_self _⟩,fun h=>nomatch h⟩
  (Weak.of hN rfl rfl rfl frI frI) fun q hq=>?_
 obtain⟨f,w1,b⟩:=q
 obtain⟨g1,g2⟩:=hq
 dsimp only at g1 g2
 dsimp only
 refine XK.c ?_ ?_<;>intro hb
 ·have hb:b=true:=hb
  subst hb
  obtain⟨g1,g3⟩:=g1 rfl
  clear g2
  obtain⟨f,rfl⟩:∃f',f=f'+1:=⟨f-1,by omega⟩
  refine XK.w ?_
  refine XK.loop (ι:=Nat) (fun i=>ST.of [(0,.ptr 0 0),(2,.c (.bool (passTo k w1 i).2)),(11,clsV k.clauses),(12,.c (.int .i64 k.clauses.length)),(13,.c (.int .i64 i))] (wN k (passTo k w1 i).1) 2000 53 (fun _=>false))
   (fun i=>i≤k.clauses.length) (fun i=>k.clauses.length-i) 0 (Nat.zero_le _)
   (Weak.of hN rfl rfl rfl frI frI) fun i hi=>?_
  refine XK.c ?_ ?_<;>intro hlt<;>try simp at hlt
  ·have fc:k.clauses.getD (i:Int).toNat default=clAt k i:=rfl
   have hkf:=kindW (hk.clB hlt).2.2.1
   have hp:passTo k w1 (i+1)=if rdyB k (passTo k w1 i).1.mark i=true then((passTo k w1 i).1.upM i (liveM k (passTo k w1 i).1.hold i),true) else passTo k w1 i:=rfl
   generalize passTo k w1 i=p at*
   obtain⟨w2,b2⟩:=p
   dsimp only at hp
   dsimp only
   refine XK.w ?_
   have hr:=readyM_ok k hk w2 i hlt
   have hrt:=fun h=>(rdyB_true (k:=k) (mk:=w2.mark) (i:=i) h).1
   generalize hrb:rdyB k w2.mark i=rb at*
   refine XK.weak (Weak.of (L:=[(0,.ptr 0 0),(2,.c (.bool b2)),(3,.c (.int .i64 i)),(4,.ptr 2057 0),(11,clsV k.clauses),(12,.c (.int .i64 k.clauses.length)),(13,.c (.int .i64 i))]) (O:=(2057,.cells 61 (clC (clAt k i)))::wN k w2) (nx:=3000) (nt:=53) (md:=fun _=>false) hN rfl rfl rfl frI frI) ?_
   refine XK.s ?_
   refine XD.callMA [1,2,3] hE rfl rfl rfl rfl trivial (hr) rfl rfl rfl rfl rfl ?_
   refine XD.e ?_
   refine XK.c ?_ ?_<;>intro h1
   ·have h1:rb=false:=by simpa using h1
    subst h1
    rw[if_neg (by simp)] at hp
    refine XK.w ?_
    refine XK.inv ⟨i+1,hlt,?_,by omega⟩
    rw[hp]
    exact(Weak.of hN rfl rfl rfl frI frI)
   ·have h1:rb=true:=by simpa using h1
    subst h1
    rw[if_pos rfl] at hp
    have hb:=hk.clB hlt
    refine XK.w ?_;refine XK.join (ST.of [(0,.ptr 0 0),(2,.c (.bool b2)),(3,.c (.int .i64 i)),(4,.ptr 2057 0),(5,.c (.int .i64 (liveM k w2.hold i).bearer)),(11,clsV k.clauses),(12,.c (.int .i64 k.clauses.length)),(13,.c (.int .i64 i))] ((2057,.cells 61 (clC (clAt k i)))::wN k w2) 4000 53 (fun _=>false)) rfl (fun h3=>?_) (fun h3=>?_) ?_
    ·have h3:(clAt k i).kind≠4:=by simpa using h3
     have hro:0≤(clAt k i).role∧(clAt k i).role<k.holders.length:=by
      rcases hkf with h|h
      ·exact absurd h.1 h3
      ·exact h.1
     have e:(liveM k w2.hold i).bearer=w2.hold (clAt k i).role.toNat:=by simp[liveM,h3]
     rw[e]
     refine XK.w ?_
     exact XK.inv (Weak.of hN rfl rfl rfl frI frI)
    ·have h3:(clAt k i).kind=4:=by simpa using h3
     have e:(liveM k w2.hold i).bearer=-1:=by simp[liveM,h3]
     rw[e]
     refine XK.w ?_
     exact XK.inv (Weak.of hN rfl rfl rfl frI frI)
    refine XK.w ?_
    refine XK.inv ⟨i+1,hlt,?_,by omega⟩
    rw[hp]
    exact(Weak.of hN rfl rfl rfl frI (by(repeat' (first|exact rfl|exact AvIs.refl _|exact trivial|exact fun _ _=>rfl|exact fun _ _=>⟨rfl,AvIs.refl _⟩|exact fun _ hi=>absurd hi (Nat.not_lt_zero _)|(intro i hi;cases Nat.lt_one_iff.1 hi;rfl)|(intro j hj;by_cases hji:j=(i);(· subst hji;simp[setRowF,setL,mkC,Wk.upM,liveM];done);(· simp[setRowF,beq_false hji,Wk.upM,liveM,hji,lt_succ_ne hji];done))|refine⟨?_,?_⟩))))
  ·have hie:i=k.clauses.length:=by omega
   subst hie
   have hl:=fun h=>pass_less (k:=k) (w:=w1) k.clauses.length (Nat.le_refl _) h
   have hn:=fun h=>pass_none (k:=k) (w:=w1) k.clauses.length h
   rw[startN] at g1
   generalize passTo k w1 k.clauses.length=p at*
   obtain⟨w2,b2⟩:=p
   dsimp only at hl hn g1
   dsimp only
   refine XK.w ?_
   refine XK.inv ⟨(f,w2,b2),⟨fun h=>?_,fun h=>?_⟩,(Weak.of hN rfl rfl rfl frI frI),?_⟩
   ·have h:b2=true:=h
    rw[if_pos h] at g1
    have:=hl h
    exact⟨g1,by show idleN k w2.mark<f;omega⟩
   ·have h:b2=false:=h
    rw[if_neg (by rw[h];simp)] at g1
    have:=congrArg Prod.fst (hn h).1
    show w2=_
    rw[←g1]
    exact this
   ·dsimp only
    cases b2<;>simp
 ·have hb:b=false:=hb
  subst hb
  have g2:=g2 rfl
  subst g2
  refine XK.w ?_
  refine XK.t [0,1,2,3] ?_ ?_
  ·exact frI
  ·exact frI
end
section
open Go.Eng
theorem wrunning_ok (k:K) (w:Wk):DoesM Tryz.prog 61 [.ptr 0 0] (wOs k w) (.fn (.func 108) [] [.ptr 4 0]) (wOs k w++[.cells 72 [.ptr 0 0]]):=by
 refine DoesM.mk (fun _=>false) 100 TT_ok Tryz.func61 rfl (by kernel_rfl) Tryz.ntmps61 rfl rfl rfl fun E hT hE hN hR=>?_
 have hm:=mixO hE
 refine XK.w ?_
 refine XK.t [0,1,2,3,101] ?_ ?_
 ·exact frI
 ·exact frI
def csS (k:K) (a:Nat):List AV:=frL 66 [(2,.ptr 6 0),(4,.rptr (actC (acAt k a)))]
def itS (k:K) (a:Nat) (w:Wk):List Ob:=[.cells 72 [.ptr 2 0],wO k w 3 4 5,wHold k w,wUsed k w,wMark k w,.cells 72 [.ptr 2 0]]
def itNS (k:K) (a:Nat) (w:Wk):List (Nat×Ob):=[(1,.cells 72 [.ptr 2 0]),(2,wO k w 3 4 5),(3,wHold k w),(4,wUsed k w),(5,wMark k w),(6,.cells 72 [.ptr 2 0])]
theorem runItS_ok (k:K) (a:Nat) (hk:KFacts k) (w:Wk) (f:Nat→Mk→Mk) (L b:Nat) (rc:Array Value→Obj)
  (hY:∀i,i<k.clauses.length→runsM (w.mark i)=true→DoesR Tryz.prog L [.c (.int .i64 i)] (.lrec rc b (csS k a)::itS k a (mapRun f w i)) (.c (.bool true)) (.lrec rc b (csS k a)::itS k a (mapRun f w (i+1)))):
  DoesM Tryz.prog 108 [.fn (.yield L) [] [],.ptr 1 0] (.lrec rc b (csS k a)::itS k a w) (.tup []) (.lrec rc b (csS k a)::itS k a (mapRun f w k.clauses.length)):=by
 refine DoesM.mk (fun _=>false) 100 TT_ok Tryz.func108 rfl (by kernel_rfl) Tryz.ntmps108 rfl rfl rfl fun E hT hE hN hR=>?_
 have hm:=mixO hE
 have hnc:=hk.nc
 refine XK.w ?_
 refine XK.loop (ι:=Nat) (fun i=>ST.of [(0,.fn (.yield L) [] []),(1,.ptr 1 0),(9,.c (.int .i64 k.clauses.length)),(10,.c (.int .i64 i))] ((0,.lrec rc b (csS k a))::itNS k a (mapRun f w i)) 1000 29 (fun _=>false))
  (fun i=>i≤k.clauses.length) (fun i=>k.clauses.length-i) 0 (Nat.zero_le _)
  (Weak.of hN rfl rfl rfl frI (by simp only[mapRun_zero];(repeat' (first|exact rfl|exact AvIs.refl _|exact trivial|exact fun _ _=>rfl|exact fun _ _=>⟨rfl,AvIs.refl _⟩|refine⟨?_,?_⟩)))) fun i hi=>?_
 refine XK.c ?_ ?_<;>intro hlt<;>try simp at hlt
 ·have hYi:=hY i hlt
  have hs:=mapRun_succ f w i
  have hm0:(mapRun f w i).mark i=w.mark i:=mapRun_ge (Nat.lt_irrefl i)
  have fm:(mapRun f w i).mark (i:Int).toNat=w.mark i:=hm0
  refine XK.w ?_
  refine XK.r ?_
  refine XL.callLA hE rfl rfl rfl rfl trivial rfl (running_ok ((mapRun f w i).mark (i:Int).toNat)) rfl ?_
  rw[fm]
  refine XL.g ?_
  refine XL.yieldMG [0,1,2,3,4,5,6] (.c (.bool false)) hE rfl rfl rfl rfl rfl rfl (fun hgd=>?_) rfl (fun hgd=>?_) (fun hgd=>hYi hgd) rfl ?_ rfl (fun hgd=>?_) rfl rfl rfl (fun hgd=>?_)
  ·rw[if_neg (by rw[hgd];simp)] at hs
   refine XL.e ?_
   refine XK.c ?_ ?_<;>intro hb
   ·exact absurd hb (by rw[hgd];simp)
   ·refine XK.w ?_
    refine XK.inv ⟨i+1,hlt,?_,by omega⟩
    rw[hs]
    exact(Weak.of hN rfl rfl rfl frI frI)
  ·simp only[AllP,impG,hgd];simp
  ·exact frI
  ·exact frI
  ·refine XL.e ?_
   refine XK.c ?_ ?_<;>intro hb
   ·exact absurd hb (by simp)
   ·refine XK.w ?_
    refine XK.inv ⟨i+1,hlt,?_,by omega⟩
    exact(Weak.of hN rfl rfl rfl frI frI)
 ·have hie:i=k.clauses.length:=by omega
  subst hie
  refine XK.w ?_
  refine XK.t [0,1,2,3,4,5,6] ?_ ?_
  ·exact frI
  ·exact frI
def csT (k:K) (free:Bool):List AV:=frL 89 [(1,.ptr 6 0),(2,.vptr 7 0 1 0 0),(4,.rptr [.c (.bool free)])]
def itT (k:K) (free:Bool) (w:Wk):List Ob:=[.cells 72 [.ptr 2 0],wO k w 3 4 5,wHold k w,wUsed k w,wMark k w,.cells 72 [.ptr 2 0],.vec 129 1 0 5 (rowOf [.c .nilFunc,.fn (.func 57) [] [],.fn (.func 58) [] [],.fn (.func 59) [] [],.fn (.func 59) [] []] 1)]
def itNT (k:K) (free:Bool) (w:Wk):List (Nat×Ob):=[(1,.cells 72 [.ptr 2 0]),(2,wO k w 3 4 5),(3,wHold k w),(4,wUsed k w),(5,wMark k w),(6,.cells 72 [.ptr 2 0]),(7,.vec 129 1 0 5 (rowOf [.c .nilFunc,.fn (.func 57) [] [],.fn (.func 58) [] [],.fn (.func 59) [] [],.fn (.func 59) [] []] 1))]
theorem runItT_ok (k:K) (free:Bool) (hk:KFacts k) (w:Wk) (f:Nat→Mk→Mk) (L b:Nat) (rc:Array Value→Obj)
  (hY:∀i,i<k.clauses.length→runsM (w.mark i)=true→DoesR Tryz.prog L [.c (.int .i64 i)] (.lrec rc b (csT k free)::itT k free (mapRun f w i)) (.c (.bool true)) (.lrec rc b (csT k free)::itT k free (mapRun f w (i+1)))):
  DoesM Tryz.prog 108 [.fn (.yield L) [] [],.ptr 1 0] (.lrec rc b (csT k free)::itT k free w) (.tup []) (.lrec rc b (csT k free)::itT k free (mapRun f w k.clauses.length)):=by
 refine DoesM.mk (fun _=>false) 100 TT_ok Tryz.func108 rfl (by kernel_rfl) Tryz.ntmps108 rfl rfl rfl fun E hT hE hN hR=>?_
 have hm:=mixO hE
 have hnc:=hk.nc
 refine XK.w ?_
 refine XK.loop (ι:=Nat) (fun i=>ST.of [(0,.fn (.yield L) [] []),(1,.ptr 1 0),(9,.c (.int .i64 k.clauses.length)),(10,.c (.int .i64 i))] ((0,.lrec rc b (csT k free))::itNT k free (mapRun f w i)) 1000 29 (fun _=>false))
  (fun i=>i≤k.clauses.length) (fun i=>k.clauses.length-i) 0 (Nat.zero_le _)
  (Weak.of hN rfl rfl rfl frI (by simp only[mapRun_zero];(repeat' (first|exact rfl|exact AvIs.refl _|exact trivial|exact fun _ _=>rfl|exact fun _ _=>⟨rfl,AvIs.refl _⟩|refine⟨?_,?_⟩)))) fun i hi=>?_
 refine XK.c ?_ ?_<;>intro hlt<;>try simp at hlt
 ·have hYi:=hY i hlt
  have hs:=mapRun_succ f w i
  have hm0:(mapRun f w i).mark i=w.mark i:=mapRun_ge (Nat.lt_irrefl i)
  have fm:(mapRun f w i).mark (i:Int).toNat=w.mark i:=hm0
  refine XK.w ?_
  refine XK.r ?_
  refine XL.callLA hE rfl rfl rfl rfl trivial rfl (running_ok ((mapRun f w i).mark (i:Int).toNat)) rfl ?_
  rw[fm]
  refine XL.g ?_
  refine XL.yieldMG [0,1,2,3,4,5,6,7] (.c (.bool false)) hE rfl rfl rfl rfl rfl rfl (fun hgd=>?_) rfl (fun hgd=>?_) (fun hgd=>hYi hgd) rfl ?_ rfl (fun hgd=>?_) rfl rfl rfl (fun hgd=>?_)
  ·rw[if_neg (by rw[hgd];simp)] at hs
   refine XL.e ?_
   refine XK.c ?_ ?_<;>intro hb
   ·exact absurd hb (by rw[hgd];simp)
   ·refine XK.w ?_
    refine XK.inv ⟨i+1,hlt,?_,by omega⟩
    rw[hs]
    exact(Weak.of hN rfl rfl rfl frI frI)
  ·simp only[AllP,impG,hgd];simp
  ·exact frI
  ·exact frI
  ·refine XL.e ?_
   refine XK.c ?_ ?_<;>intro hb
   ·exact absurd hb (by simp)
   ·refine XK.w ?_
    refine XK.inv ⟨i+1,hlt,?_,by omega⟩
    exact(Weak.of hN rfl rfl rfl frI frI)
 ·have hie:i=k.clauses.length:=by omega
  subst hie
  refine XK.w ?_
  refine XK.t [0,1,2,3,4,5,6,7] ?_ ?_
  ·exact frI
  ·exact frI
def csP (k:K) (a:Nat):List AV:=frL 132 [(2,.ptr 6 0),(3,.rptr [.c (.int .i64 (a:Nat))])]
def itP (k:K) (a:Nat) (w:Wk):List Ob:=[.cells 72 [.ptr 2 0],wO k w 3 4 5,wHold k w,wUsed k w,wMark k w,.cells 72 [.ptr 2 0]]
def itNP (k:K) (a:Nat) (w:Wk):List (Nat×Ob):=[(1,.cells 72 [.ptr 2 0]),(2,wO k w 3 4 5),(3,wHold k w),(4,wUsed k w),(5,wMark k w),(6,.cells 72 [.ptr 2 0])]
theorem runItP_ok (k:K) (a:Nat) (hk:KFacts k) (w:Wk) (f:Nat→Mk→Mk) (L b:Nat) (rc:Array Value→Obj)
  (hY:∀i,i<k.clauses.length→runsM (w.mark i)=true→DoesR Tryz.prog L [.c (.int .i64 i)] (.lrec rc b (csP k a)::itP k a (mapRun f w i)) (.c (.bool true)) (.lrec rc b (csP k a)::itP k a (mapRun f w (i+1)))):
  DoesM Tryz.prog 108 [.fn (.yield L) [] [],.ptr 1 0] (.lrec rc b (csP k a)::itP k a w) (.tup []) (.lrec rc b (csP k a)::itP k a (mapRun f w k.clauses.length)):=by
 refine DoesM.mk (fun _=>false) 100 TT_ok Tryz.func108 rfl (by kernel_rfl) Tryz.ntmps108 rfl rfl rfl fun E hT hE hN hR=>?_
 have hm:=mixO hE
 have hnc:=hk.nc
 refine XK.w ?_
 refine XK.loop (ι:=Nat) (fun i=>ST.of [(0,.fn (.yield L) [] []),(1,.ptr 1 0),(9,.c (.int .i64 k.clauses.length)),(10,.c (.int .i64 i))] ((0,.lrec rc b (csP k a))::itNP k a (mapRun f w i)) 1000 29 (fun _=>false))
  (fun i=>i≤k.clauses.length) (fun i=>k.clauses.length-i) 0 (Nat.zero_le _)
  (Weak.of hN rfl rfl rfl frI (by simp only[mapRun_zero];(repeat' (first|exact rfl|exact AvIs.refl _|exact trivial|exact fun _ _=>rfl|exact fun _ _=>⟨rfl,AvIs.refl _⟩|refine⟨?_,?_⟩)))) fun i hi=>?_
 refine XK.c ?_ ?_<;>intro hlt<;>try simp at hlt
 ·have hYi:=hY i hlt
  have hs:=mapRun_succ f w i
  have hm0:(mapRun f w i).mark i=w.mark i:=mapRun_ge (Nat.lt_irrefl i)
  have fm:(mapRun f w i).mark (i:Int).toNat=w.mark i:=hm0
  refine XK.w ?_
  refine XK.r ?_
  refine XL.callLA hE rfl rfl rfl rfl trivial rfl (running_ok ((mapRun f w i).mark (i:Int).toNat)) rfl ?_
  rw[fm]
  refine XL.g ?_
  refine XL.yieldMG [0,1,2,3,4,5,6] (.c (.bool false)) hE rfl rfl rfl rfl rfl rfl (fun hgd=>?_) rfl (fun hgd=>?_) (fun hgd=>hYi hgd) rfl ?_ rfl (fun hgd=>?_) rfl rfl rfl (fun hgd=>?_)
  ·rw[if_neg (by rw[hgd];simp)] at hs
   refine XL.e ?_
   refine XK.c ?_ ?_<;>intro hb
   ·exact absurd hb (by rw[hgd];simp)
   ·refine XK.w ?_
    refine XK.inv ⟨i+1,hlt,?_,by omega⟩
    rw[hs]
    exact(Weak.of hN rfl rfl rfl frI frI)
  ·simp only[AllP,impG,hgd];simp
  ·exact frI
  ·exact frI
  ·refine XL.e ?_
   refine XK.c ?_ ?_<;>intro hb
   ·exact absurd hb (by simp)
   ·refine XK.w ?_
    refine XK.inv ⟨i+1,hlt,?_,by omega⟩
    exact(Weak.of hN rfl rfl rfl frI frI)
 ·have hie:i=k.clauses.length:=by omega
  subst hie
  refine XK.w ?_
  refine XK.t [0,1,2,3,4,5,6] ?_ ?_
  ·exact frI
  ·exact frI
def csA (k:K) (a:Nat) (by_:Int):List AV:=frL 132 [(2,.ptr 6 0),(3,.rptr [.c (.int .i64 (a:Nat))]),(6,.vptr 7 0 1 0 0),(7,.rptr [.c (.int .i64 by_)])]
def itA (k:K) (a:Nat) (by_:Int) (w:Wk):List Ob:=[.cells 72 [.ptr 2 0],wO k w 3 4 5,wHold k w,wUsed k w,wMark k w,.cells 72 [.ptr 2 0],.vec 129 1 0 5 (rowOf [.c .nilFunc,.fn (.func 62) [] [],.fn (.func 63) [] [],.fn (.func 58) [] [],.fn (.func 58) [] []] 1)]
def itNA (k:K) (a:Nat) (by_:Int) (w:Wk):List (Nat×Ob):=[(1,.cells 72 [.ptr 2 0]),(2,wO k w 3 4 5),(3,wHold k w),(4,wUsed k w),(5,wMark k w),(6,.cells 72 [.ptr 2 0]),(7,.vec 129 1 0 5 (rowOf [.c .nilFunc,.fn (.func 62) [] [],.fn (.func 63) [] [],.fn (.func 58) [] [],.fn (.func 58) [] []] 1))]
theorem runItA_ok (k:K) (a:Nat) (by_:Int) (hk:KFacts k) (w:Wk) (f:Nat→Mk→Mk) (L b:Nat) (rc:Array Value→Obj)
  (hY:∀i,i<k.clauses.length→runsM (w.mark i)=true→DoesR Tryz.prog L [.c (.int .i64 i)] (.lrec rc b (csA k a by_)::itA k a by_ (mapRun f w i)) (.c (.bool true)) (.lrec rc b (csA k a by_)::itA k a by_ (mapRun f w (i+1)))):
  DoesM Tryz.prog 108 [.fn (.yield L) [] [],.ptr 1 0] (.lrec rc b (csA k a by_)::itA k a by_ w) (.tup []) (.lrec rc b (csA k a by_)::itA k a by_ (mapRun f w k.clauses.length)):=by
 refine DoesM.mk (fun _=>false) 100 TT_ok Tryz.func108 rfl (by kernel_rfl) Tryz.ntmps108 rfl rfl rfl fun E hT hE hN hR=>?_
 have hm:=mixO hE
 have hnc:=hk.nc
 refine XK.w ?_
 refine XK.loop (ι:=Nat) (fun i=>ST.of [(0,.fn (.yield L) [] []),(1,.ptr 1 0),(9,.c (.int .i64 k.clauses.length)),(10,.c (.int .i64 i))] ((0,.lrec rc b (csA k a by_))::itNA k a by_ (mapRun f w i)) 1000 29 (fun _=>false))
  (fun i=>i≤k.clauses.length) (fun i=>k.clauses.length-i) 0 (Nat.zero_le _)
  (Weak.of hN rfl rfl rfl frI (by simp only[mapRun_zero];(repeat' (first|exact rfl|exact AvIs.refl _|exact trivial|exact fun _ _=>rfl|exact fun _ _=>⟨rfl,AvIs.refl _⟩|refine⟨?_,?_⟩)))) fun i hi=>?_
 refine XK.c ?_ ?_<;>intro hlt<;>try simp at hlt
 ·have hYi:=hY i hlt
  have hs:=mapRun_succ f w i
  have hm0:(mapRun f w i).mark i=w.mark i:=mapRun_ge (Nat.lt_irrefl i)
  have fm:(mapRun f w i).mark (i:Int).toNat=w.mark i:=hm0
  refine XK.w ?_
  refine XK.r ?_
  refine XL.callLA hE rfl rfl rfl rfl trivial rfl (running_ok ((mapRun f w i).mark (i:Int).toNat)) rfl ?_
  rw[fm]
  refine XL.g ?_
  refine XL.yieldMG [0,1,2,3,4,5,6,7] (.c (.bool false)) hE rfl rfl rfl rfl rfl rfl (fun hgd=>?_) rfl (fun hgd=>?_) (fun hgd=>hYi hgd) rfl ?_ rfl (fun hgd=>?_) rfl rfl rfl (fun hgd=>?_)
  ·rw[if_neg (by rw[hgd];simp)] at hs
   refine XL.e ?_
   refine XK.c ?_ ?_<;>intro hb
   ·exact absurd hb (by rw[hgd];simp)
   ·refine XK.w ?_
    refine XK.inv ⟨i+1,hlt,?_,by omega⟩
    rw[hs]
    exact(Weak.of hN rfl rfl rfl frI frI)
  ·simp only[AllP,impG,hgd];simp
  ·exact frI
  ·exact frI
  ·refine XL.e ?_
   refine XK.c ?_ ?_<;>intro hb
   ·exact absurd hb (by simp)
   ·refine XK.w ?_
    refine XK.inv ⟨i+1,hlt,?_,by omega⟩
    exact(Weak.of hN rfl rfl rfl frI frI)
 ·have hie:i=k.clauses.length:=by omega
  subst hie
  refine XK.w ?_
  refine XK.t [0,1,2,3,4,5,6,7] ?_ ?_
  ·exact frI
  ·exact frI
end
section
open Go.Eng
theorem wshift_ok (k:K) (hk:KFacts k) (w:Wk) (a:Nat) (ha:a<k.acts.length) (hx:(acAt k a).kind≠1):DoesM Tryz.prog 65 [.ptr 0 0,.c (.int .i64 a)] (wOs k w) (.tup []) (wOs k (giveW k w a)):=by
 refine DoesM.mk (fun _=>false) 100 TT_ok Tryz.func65 rfl (by kernel_rfl) Tryz.ntmps65 rfl rfl rfl fun E hT hE hN hR=>?_
 have hm:=mixO hE
 have fc:k.acts.getD (a:Int).toNat default=acAt k a:=rfl
 have hf:=actF (hk.act a ha)
 have hg:0≤(acAt k a).give∧(acAt k a).give<k.holders.length:=by omega
 have hnc:=hk.nc
 refine XK.w ?_
 refine XK.weak (Weak.of (L:=[(2,.ptr 102 0),(4,.ptr 170 0),(34,.c (.bool ((acAt k a).kind !=3)))]) (O:=(102,.cells 72 [.ptr 0 0])::(170,.cells 92 (actC (acAt k a)))::wN k (shiftW k w a)) (nx:=1000) (nt:=66) (md:=fun _=>false) hN rfl rfl rfl frI ?_) ?_
 ·refine⟨frI,frI,frI,⟨⟨rfl,rfl,rfl⟩,rfl,fun j hj=>?_⟩,⟨⟨rfl,rfl,rfl⟩,rfl,fun j hj=>?_⟩,frI⟩
  ·show _=setRowF (fun i=>[.c (.int .i64 (w.hold i))]) (acAt k a).give.toNat 0 [.c (.int .i64 (acAt k a).to)] j
   by_cases hji:j=(acAt k a).give.toNat
   ·subst hji;simp[setRowF,setL,shiftW]
   ·simp[setRowF,beq_false hji,shiftW,hji]
  ·by_cases hji:j=a
   ·subst hji;simp[setRowF,setL,shiftW]
   ·simp[setRowF,beq_false hji,shiftW,hji]
 unfold giveW
 generalize shiftW k w a=w1
 refine XK.c ?_ ?_<;>intro h3<;>try simp at h3
 ·rw[if_pos h3]
  refine XK.w ?_
  refine XK.t [0,1,2,3] ?_ ?_
  ·exact frI
  ·exact frI
 ·rw[if_neg (by simpa using h3)]
  refine XK.w ?_
  refine XK.r ?_
  refine XL.callMA [0,1,2,3,701] hE rfl rfl rfl rfl trivial (wrunning_ok k w1) rfl rfl rfl rfl rfl ?_
  refine XL.e ?_
  refine XK.weak (Weak.trans (Weak.frozenC (k:=170) hN rfl rfl rfl) (Weak.of (L:=[(2,.ptr 102 0),(4,.rptr (actC (acAt k a))),(36,.fn (.func 108) [] [.ptr 701 0])]) (O:=(701,.cells 72 [.ptr 0 0])::(102,.cells 72 [.ptr 0 0])::wN k w1) (nx:=2000) (nt:=66) (md:=fun _=>false) hN rfl rfl rfl frI frI)) ?_
  refine XK.rangeFunc 900 [701,0,1,2,3,102] (frL 66 [(2,.ptr 102 0),(4,.rptr (actC (acAt k a)))])
   (ST.of [] (wN k (mapRun (bearM k (acAt k a)) w1 k.clauses.length)) 3000 66 (fun _=>false))
   (res:=.tup []) (args':=[.ptr 1 0]) (s:=.ready) (pend:=none) (O':=itS k a (mapRun (bearM k (acAt k a)) w1 k.clauses.length)) (O:=itS k a w1) hR rfl trivial rfl (frL_length _ _) (frL_is frI) (fun L D fn=>?_) rfl frI rfl rfl frI rfl rfl (by simp) (fun L D fn cs=>(Weak.of hN rfl rfl rfl frI frI)) ?_
  ·rw[hE]
   refine runItS_ok k a hk w1 (bearM k (acAt k a)) L L (recOf fn _ _ _ D .ready none) (fun i hi hr=>?_)
   ·have hs:=mapRun_succ (bearM k (acAt k a)) w1 i
    rw[if_pos hr] at hs
    have hm0:(mapRun (bearM k (acAt k a)) w1 i).mark i=w1.mark i:=mapRun_ge (Nat.lt_irrefl i)
    rw[hs]
    generalize mapRun (bearM k (acAt k a)) w1 i=w2 at*
    have fc2:k.clauses.getD (i:Int).toNat default=clAt k i:=rfl
    refine DoesR.mkT TT_ok (fun _=>false) 100 (ST.of [(2,.ptr 6 0),(4,.rptr (actC (acAt k a))),(5,.c (.int .i64 i))] ((0,.lrec (recOf fn _ _ _ D .ready none) L (csS k a))::itNS k a w2) 1000 66 (fun _=>false)) rfl ?_ (Nat.le_refl 6) (fun E hT hE hN hR=>?_) rfl (fun E hT hE hN hR=>?_)
    ·intro x hx
     simp only[List.mem_toArray,List.mem_singleton] at hx
     subst hx
     show 37<(frL 66 _).length
     rw[frL_length]
     omega
    ·have hm:=mixO hE
     refine XK.w ?_
     exact XK.nil ⟨rfl,(Weak.of hN rfl rfl rfl frI frI)⟩
    ·have hm:=mixO hE
     unfold bearM
     refine XK.w ?_
     rw[fc2]
     refine XK.c ?_ ?_<;>intro h5<;>try simp at h5
     ·rw[if_pos (show(clAt k i).kind≠4∧(clAt k i).role=(acAt k a).give by simpa using h5),←hm0]
      refine XK.w ?_
      (first|refine XK.outY [0,1,2,3,4,5,6] hN rfl rfl rfl ?_ ?_ ?_|refine XK.outYN [0,1,2,3,4,5,6] hN rfl rfl rfl ?_ ?_ ?_)
      ·(repeat' (first|exact rfl|exact AvIs.refl _|exact trivial|exact fun _ _=>rfl|exact fun _ _=>⟨rfl,AvIs.refl _⟩|exact fun _ hi=>absurd hi (Nat.not_lt_zero _)|(intro i hi;cases Nat.lt_one_iff.1 hi;rfl)|(intro j hj;by_cases hji:j=(i);(· subst hji;simp[setRowF,setL,mkC,Wk.upM];done);(· simp[setRowF,beq_false hji,Wk.upM,hji,lt_succ_ne hji];done))|refine⟨?_,?_⟩))
      ·rfl
      ·rfl
     ·rw[if_neg (show ¬((clAt k i).kind≠4∧(clAt k i).role=(acAt k a).give) by simpa using h5),←hm0,upM_self]
      refine XK.w ?_
      (first|refine XK.outY [0,1,2,3,4,5,6] hN rfl rfl rfl ?_ ?_ ?_|refine XK.outYN [0,1,2,3,4,5,6] hN rfl rfl rfl ?_ ?_ ?_)
      ·exact frI
      ·rfl
      ·rfl
  ·refine XK.w ?_
   refine XK.t [0,1,2,3] ?_ ?_
   ·exact frI
   ·exact frI
end
section
open Go.Eng
theorem halfW (i j:Nat):Int.fdiv ((i:Int)+j) (2^(min (Int.toNat 1) (IntKind.bits .u64)))=(((i+j)/2:Nat):Int):=by
 have:(2:Int)^(min (Int.toNat 1) (IntKind.bits .u64))=2:=by decide
 rw[this,Int.fdiv_eq_ediv_of_nonneg _ (by omega)]
 omega
theorem offW_mono {k:K} (h:offB k=true):∀i j,i<j→j<k.off.length→k.off.getD i default<k.off.getD j default:=by
 have h1:∀i,i<k.off.length→offPrev k i<k.off.getD i default:=fun i hi=>by
  have:=List.all_eq_true.1 h i (List.mem_range.2 hi)
  simp only[Bool.and_eq_true,decide_eq_true_eq] at this
  exact this.1
 intro i j hij hj
 induction j with
 |zero=>omega
 |succ j ih=>
  have h2:=h1 (j+1) hj
  simp only[offPrev,Nat.add_sub_cancel,Nat.succ_ne_zero,if_false,Nat.add_one_ne_zero] at h2
  by_cases h3:i=j
  ·subst h3;exact h2
  ·have:=ih (by omega) (by omega)
   omega
theorem offW_len {k:K} (hk:KFacts k):k.off.length≤1000000:=by
 have hmono:=offW_mono hk.off
 have hlow:∀i,i<k.off.length→(i:Int)≤k.off.getD i default:=fun i=>by
  induction i with
  |zero=>
   intro hi
   have:=List.all_eq_true.1 hk.off 0 (List.mem_range.2 hi)
   simp[offPrev] at this
   simp
   omega
  |succ i ih=>
   intro hi
   have h1:=ih (by omega)
   have h2:=hmono i (i+1) (by omega) hi
   omega
 rcases Nat.eq_zero_or_pos k.off.length with h|h
 ·omega
 ·have h1:=hlow (k.off.length-1) (by omega)
  have h2:=List.all_eq_true.1 hk.off (k.off.length-1) (List.mem_range.2 (by omega))
  simp only[Bool.and_eq_true,decide_eq_true_eq] at h2
  have h3:=hk.days
  omega
theorem anyW {l:List Int} {d:Int}:l.any (fun x=>x==d)=true↔∃i,i<l.length∧l.getD i default=d:=by
 rw[List.any_eq_true]
 constructor
 ·rintro⟨x,hx,h⟩
  obtain⟨i,hi,rfl⟩:=List.getElem_of_mem hx
  exact⟨i,hi,by simpa only[List.getD_eq_getElem?_getD,List.getElem?_eq_getElem hi,Option.getD_some,beq_iff_eq] using h⟩
 ·rintro⟨i,hi,h⟩
  refine⟨_,List.getElem_mem hi,?_⟩
  simpa only[List.getD_eq_getElem?_getD,List.getElem?_eq_getElem hi,Option.getD_some,beq_iff_eq] using h
theorem nanS_ok (x:Int):Does Tryz.prog 107 [.c (.int .i64 x)] (.c (.bool false)):=by
 refine Does.mk (fun _=>false) TT_ok Tryz.func107 rfl (by kernel_rfl) Tryz.ntmps107 rfl rfl fun E hT hE hN hR=>?_
 have hm:=mixO hE
 refine XK.w ?_
 refine XK.q ?_
 simp
theorem nanC_ok (x:Int):Does Tryz.prog 150 [.c (.int .i64 x)] (.c (.bool false)):=by
 refine Does.mk (fun _=>false) TT_ok Tryz.func150 rfl (by kernel_rfl) Tryz.ntmps150 rfl rfl fun E hT hE hN hR=>?_
 have hm:=mixO hE
 refine XK.w ?_
 refine XK.q ?_
 simp
theorem less_ok (x y:Int):Does Tryz.prog 106 [.c (.int .i64 x),.c (.int .i64 y)] (.c (.bool (decide (x<y)))):=by
 refine Does.mk (fun _=>false) TT_ok Tryz.func106 rfl (by kernel_rfl) Tryz.ntmps106 rfl rfl fun E hT hE hN hR=>?_
 have hm:=mixO hE
 refine XK.r ?_
 refine XL.callLA hE rfl rfl rfl rfl trivial rfl (nanC_ok x) rfl ?_
 refine XL.g ?_
 refine XL.callGA hE rfl rfl rfl rfl rfl rfl rfl rfl (nanC_ok y) rfl ?_
 refine XL.e ?_
 refine XK.q ?_
 simp
theorem bsearch_ok (k:K) (hk:KFacts k) (day:Int):∃m:Nat,m≤1000000∧Does Tryz.prog 60 [intsV k.off,.c (.int .i64 day)] (.tup [.c (.int .i64 m),.c (.bool (offD k day))]):=by
 have hmono:=offW_mono hk.off
 have hlen:=offW_len hk
 have hm1:∀i j,i≤j→j<k.off.length→¬k.off.getD i default<day→¬k.off.getD j default<day:=fun i j hij hj h=>by
  by_cases e:i=j
  ·subst e;exact h
  ·have:=hmono i j (by omega) hj
   omega
 -- the least index from which the days are not before
 obtain⟨m,m1,m2,m3⟩:∃m:Nat,m≤k.off.length∧(∀i,i<m→k.off.getD i default<day)∧∀i,m≤i→i<k.off.length→¬k.off.getD i default<day:=by
  have key:∀n,n≤k.off.length→∃m:Nat,m≤n∧(∀i,i<m→k.off.getD i default<day)∧∀i,m≤i→i<n→¬k.off.getD i default<day:=by
   intro n
   induction n with
   |zero=>exact fun _=>⟨0,Nat.le_refl _,fun i hi=>absurd hi (Nat.not_lt_zero _),fun i _ hi=>absurd hi (Nat.not_lt_zero _)⟩
   |succ n ih=>
    intro hn
    obtain⟨m,h1,h2,h3⟩:=ih (by omega)
    by_cases hd:k.off.getD n default<day
    ·refine⟨n+1,Nat.le_refl _,fun i hi=>?_,fun i h4 h5=>by omega⟩
     by_cases e:i=n
     ·subst e;exact hd
     ·have:=hmono i n (by omega) (by omega)
      omega
    ·refine⟨m,by omega,h2,fun i h4 h5=>?_⟩
     by_cases e:i=n
     ·subst e;exact hd
     ·exact h3 i h4 (by omega)
  exact key _ (Nat.le_refl _)
 have hfin:offD k day=(decide (m<k.off.length)&&k.off.getD m default==day):=by
  unfold offD
  rw[Bool.eq_iff_iff,anyW]
  constructor
  ·rintro⟨i,hi,he⟩
   have h4:¬i<m:=fun h=>by have:=m2 i h;omega
   have h5:m<k.off.length:=by omega
   have h6:=m3 m (Nat.le_refl _) h5
   have h7:¬m<i:=fun h=>by have:=hmono m i h hi;omega
   have:m=i:=by omega
   subst this
   rw[decide_eq_true hi,Bool.true_and,beq_iff_eq]
   exact he
  ·intro h
   simp only[Bool.and_eq_true,decide_eq_true_eq,beq_iff_eq] at h
   exact⟨m,h.1,h.2⟩
 refine⟨m,by omega,?_⟩
 refine Does.mk (fun _=>false) TT_ok Tryz.func60 rfl (by kernel_rfl) Tryz.ntmps60 rfl rfl fun E hT hE hN hR=>?_
 have hm:=mixO hE
 refine XK.w ?_
 refine XK.loop (ι:=Nat×Nat) (fun p=>ST.of [(0,intsV k.off),(1,.c (.int .i64 day)),(6,.c (.int .i64 k.off.length)),(7,.c (.int .i64 p.1)),(8,.c (.int .i64 p.2))] [] 1000 54 (fun _=>false))
  (fun p=>p.1≤m∧m≤p.2∧p.2≤k.off.length) (fun p=>p.2-p.1) (0,k.off.length) ⟨Nat.zero_le _,m1,Nat.le_refl _⟩
  (Weak.of hN rfl rfl rfl frI frI) fun p hp=>?_
 obtain⟨a,b⟩:=p
 obtain⟨h1,h2,h3⟩:=hp
 simp only at h1 h2 h3
 refine XK.c ?_ ?_<;>intro hlt<;>try simp at hlt
 ·have hh:=halfW a b
  refine XK.w ?_
  refine XK.weak (Weak.of (L:=[(0,intsV k.off),(1,.c (.int .i64 day)),(6,.c (.int .i64 k.off.length)),(7,.c (.int .i64 a)),(8,.c (.int .i64 b)),(9,.c (.int .i64 (((a+b)/2:Nat):Int)))]) (O:=[]) (nx:=3000) (nt:=54) (md:=fun _=>false) hN rfl rfl rfl ⟨AvIs.refl _,rfl,rfl,rfl,rfl,cI hh⟩ trivial) ?_
  have hlt2:(a+b)/2<k.off.length:=by omega
  have fo:k.off.getD ((((a+b)/2:Nat):Int)).toNat default=k.off.getD ((a+b)/2) default:=rfl
  refine XK.r ?_
  refine XL.callLA hE rfl rfl rfl rfl trivial rfl (less_ok (k.off.getD ((((a+b)/2:Nat):Int)).toNat default) day) rfl ?_
  refine XL.e ?_
  rw[fo]
  refine XK.c ?_ ?_<;>intro h5<;>try simp at h5
  ·refine XK.w ?_
   have h6:(a+b)/2<m:=Decidable.byContradiction fun h=>m3 ((a+b)/2) (by omega) hlt2 (by simpa using h5)
   exact XK.inv ⟨((a+b)/2+1,b),⟨by omega,h2,h3⟩,(Weak.of hN rfl rfl rfl frI frI),by omega⟩
  ·refine XK.w ?_
   have h6:m≤(a+b)/2:=Decidable.byContradiction fun h=>by have h7:=m2 ((a+b)/2) (by omega);rw[List.getD_eq_getElem?_getD] at h7;exact absurd h7 (Int.not_lt.2 h5)
   exact XK.inv ⟨(a,(a+b)/2),⟨h1,h6,by show(a+b)/2≤_;omega⟩,(Weak.of hN rfl rfl rfl frI frI),by show(a+b)/2-a<b-a;omega⟩
 ·have hab:a=m:=by omega
  subst hab
  rw[hfin]
  refine XK.r ?_
  refine XL.callGA hE rfl rfl rfl rfl rfl rfl rfl rfl (nanS_ok (k.off.getD (a:Int).toNat default)) rfl ?_
  refine XL.g ?_
  refine XL.callGA hE rfl rfl rfl rfl rfl rfl rfl rfl (nanS_ok day) rfl ?_
  refine XL.e ?_
  refine XK.q ?_
  simp
end
section
open Go.Eng
def fxT:Ob:=.vec 129 1 0 5 (rowOf [.c .nilFunc,.fn (.func 57) [] [],.fn (.func 58) [] [],.fn (.func 59) [] [],.fn (.func 59) [] []] 1)
theorem clC_kind {x:Cl} {n:Int} (h:x.kind=n):clC x=.c (.int .i64 n)::(clC x).tail:=by
 subst h;rfl
theorem wtick_ok (k:K) (hk:KFacts k) (w:Wk) (hd:0≤w.day∧w.day≤100000) (hl:∀i,i<k.clauses.length→runsM (w.mark i)=true→RunF k (clAt k i) (w.mark i)):DoesM Tryz.prog 35 [.ptr 0 0] (wOs k w) (.tup []) (wOs k (tickW k w)):=by
 refine DoesM.mk (fun _=>false) 100 TT_ok Tryz.func35 rfl (by kernel_rfl) Tryz.ntmps35 rfl rfl rfl fun E hT hE hN hR=>?_
 have hm:=mixO hE
 have hnc:=hk.nc
 obtain⟨m,hm1,hbs⟩:=bsearch_ok k hk w.day
 refine XK.w ?_
 refine XK.weak (Weak.of (L:=[(1,.ptr 101 0),(2,.vptr 191 0 1 0 0)]) (O:=(101,.cells 72 [.ptr 0 0])::(191,fxT)::wN k w) (nx:=1000) (nt:=89) (md:=fun _=>false) hN rfl rfl rfl frI frI) ?_
 refine XK.s ?_
 refine XD.callLA hE rfl rfl rfl rfl trivial rfl (hbs) rfl ?_
 refine XD.e ?_
 refine XK.r ?_
 refine XL.callMA [0,1,2,3,701] hE rfl rfl rfl rfl trivial (wrunning_ok k w) rfl rfl rfl rfl rfl ?_
 refine XL.e ?_
 have hT0:tickW k w=startW k {mapRun (tickM k (offD k w.day)) w k.clauses.length with day:=w.day+1}:=rfl
 rw[hT0]
 generalize offD k w.day=free
 refine XK.weak (Weak.trans (Weak.frozenC (k:=1004) hN rfl rfl rfl) (Weak.of (L:=[(1,.ptr 101 0),(2,.vptr 191 0 1 0 0),(4,.rptr [.c (.bool free)]),(23,.fn (.func 108) [] [.ptr 701 0])]) (O:=(701,.cells 72 [.ptr 0 0])::(101,.cells 72 [.ptr 0 0])::(191,fxT)::wN k w) (nx:=2000) (nt:=89) (md:=fun _=>false) hN rfl rfl rfl frI frI)) ?_
 refine XK.rangeFunc 900 [701,0,1,2,3,101,191] (frL 89 [(1,.ptr 101 0),(2,.vptr 191 0 1 0 0),(4,.rptr [.c (.bool free)])])
  (ST.of [(1,.ptr 101 0)] ((101,.cells 72 [.ptr 0 0])::wN k (mapRun (tickM k free) w k.clauses.length)) 3000 89 (fun _=>false))
  (res:=.tup []) (args':=[.ptr 1 0]) (s:=.ready) (pend:=none) (O':=itT k free (mapRun (tickM k free) w k.clauses.length)) (O:=itT k free w) hR rfl trivial rfl (frL_length _ _) (frL_is frI) (fun L D fn=>?_) rfl frI rfl rfl frI rfl rfl (by simp) (fun L D fn cs=>(Weak.of hN rfl rfl rfl frI frI)) ?_
 ·rw[hE]
  refine runItT_ok k free hk w (tickM k free) L L (recOf fn _ _ _ D .ready none) (fun i hi hr=>?_)
  have hs:=mapRun_succ (tickM k free) w i
  rw[if_pos hr] at hs
  have hm0:(mapRun (tickM k free) w i).mark i=w.mark i:=mapRun_ge (Nat.lt_irrefl i)
  have hrf:=hl i hi hr
  rw[hs]
  generalize mapRun (tickM k free) w i=w2 at*
  have fc2:k.clauses.getD (i:Int).toNat default=clAt k i:=rfl
  have hkw:=kindW (hk.clB hi).2.2.1
  have hlb:=hrf.left
  have hlc:=(hk.clB hi).2.1
  have hst:=hrf.stat
  refine DoesR.mkT TT_ok (fun _=>false) 100 (ST.of [(1,.ptr 6 0),(2,.vptr 7 0 1 0 0),(4,.rptr [.c (.bool free)]),(5,.c (.int .i64 i))] ((0,.lrec (recOf fn _ _ _ D .ready none) L (csT k free))::itNT k free w2) 1000 89 (fun _=>false)) rfl ?_ (Nat.le_refl 7) (fun E hT hE hN hR=>?_) rfl (fun E hT hE hN hR=>?_)
  ·intro x hx
   simp only[List.mem_toArray,List.mem_singleton] at hx
   subst hx
   show 24<(frL 89 _).length
   rw[frL_length]
   omega
  ·have hm:=mixO hE
   refine XK.w ?_
   exact XK.nil ⟨rfl,(Weak.of hN rfl rfl rfl frI frI)⟩
  ·have hm:=mixO hE
   unfold tickM
   refine XK.w ?_
   rw[fc2]
   refine XK.c ?_ ?_<;>intro h5
   ·have h5:((w2.mark i).paused||(clAt k i).business&&free)=true:=h5
    rw[hm0] at h5
    rw[if_pos h5,←hm0,upM_self]
    refine XK.w ?_
    (first|refine XK.outY [0,1,2,3,4,5,6,7] hN rfl rfl rfl ?_ ?_ ?_|refine XK.outYN [0,1,2,3,4,5,6,7] hN rfl rfl rfl ?_ ?_ ?_)
    ·exact frI
    ·rfl
    ·rfl
   ·have h5:((w2.mark i).paused||(clAt k i).business&&free)=false:=h5
    rw[hm0] at h5
    rw[if_neg (by rw[h5];simp)]
    generalize hmm:w.mark i=mm at*
    have fm:w2.mark (i:Int).toNat=mm:=hm0
    refine XK.w ?_
    refine XK.weak (Weak.of (L:=[(1,.ptr 6 0),(2,.vptr 7 0 1 0 0),(4,.rptr [.c (.bool free)]),(5,.c (.int .i64 i)),(6,.ptr 1006 0)]) (O:=(1006,.cells 61 (clC (clAt k i)))::(0,.lrec (recOf fn _ _ _ D .busy none) L (csT k free))::itNT k free (w2.upM i (lessM mm))) (nx:=2000) (nt:=89) (md:=fun _=>false) hN rfl rfl rfl frI (by(repeat' (first|exact rfl|exact AvIs.refl _|exact trivial|exact fun _ _=>rfl|exact fun _ _=>⟨rfl,AvIs.refl _⟩|exact fun _ hi=>absurd hi (Nat.not_lt_zero _)|(intro i hi;cases Nat.lt_one_iff.1 hi;rfl)|(intro j hj;by_cases hji:j=(i);(· subst hji;simp[setRowF,setL,mkC,Wk.upM,lessM,hm0];done);(· simp[setRowF,beq_false hji,Wk.upM,lessM,hm0,hji,lt_succ_ne hji];done))|refine⟨?_,?_⟩)))) ?_
    have f2:(w2.upM i (lessM mm)).mark (i:Int).toNat=lessM mm:=upM_same _ _ _
    have hk4:(clAt k i).kind=1∨(clAt k i).kind=2∨(clAt k i).kind=3∨(clAt k i).kind=4:=by omega
    refine XK.w ?_
    rw[f2]
    refine XK.c ?_ ?_<;>intro h6<;>try simp at h6
    ·have h6:mm.left-1=0:=h6
     rw[if_pos h6]
     unfold dayM
     rcases hk4 with h7|h7|h7|h7
     ·rw[if_pos h7,clC_kind h7]
      refine XK.s ?_
      refine XD.callMA [2,3,4,5] hE rfl rfl rfl rfl trivial (expire_ok k hk (w2.upM i (lessM mm)) i hi) rfl rfl rfl rfl rfl ?_
      refine XD.e ?_
      rw[upM_same,upM_upM]
      (first|refine XK.outY [0,1,2,3,4,5,6,7] hN rfl rfl rfl ?_ ?_ ?_|refine XK.outYN [0,1,2,3,4,5,6,7] hN rfl rfl rfl ?_ ?_ ?_)
      ·exact frI
      ·rfl
      ·rfl
     ·rw[if_neg (by omega),if_pos h7,clC_kind h7]
      refine XK.s ?_
      refine XD.callMA [2,3,4,5] hE rfl rfl rfl rfl trivial (done_ok k (w2.upM i (lessM mm)) i hi) rfl rfl rfl rfl rfl ?_
      refine XD.e ?_
      rw[upM_same,upM_upM]
      (first|refine XK.outY [0,1,2,3,4,5,6,7] hN rfl rfl rfl ?_ ?_ ?_|refine XK.outYN [0,1,2,3,4,5,6,7] hN rfl rfl rfl ?_ ?_ ?_)
      ·exact frI
      ·rfl
      ·rfl
     ·rw[if_neg (by omega),if_neg (by omega),clC_kind h7]
      refine XK.s ?_
      refine XD.callMA [2,3,4,5] hE rfl rfl rfl rfl trivial (lapse_ok k (w2.upM i (lessM mm)) i hi) rfl rfl rfl rfl rfl ?_
      refine XD.e ?_
      rw[upM_same,upM_upM]
      (first|refine XK.outY [0,1,2,3,4,5,6,7] hN rfl rfl rfl ?_ ?_ ?_|refine XK.outYN [0,1,2,3,4,5,6,7] hN rfl rfl rfl ?_ ?_ ?_)
      ·exact frI
      ·rfl
      ·rfl
     ·rw[if_neg (by omega),if_neg (by omega),clC_kind h7]
      refine XK.s ?_
      refine XD.callMA [2,3,4,5] hE rfl rfl rfl rfl trivial (lapse_ok k (w2.upM i (lessM mm)) i hi) rfl rfl rfl rfl rfl ?_
      refine XD.e ?_
      rw[upM_same,upM_upM]
      (first|refine XK.outY [0,1,2,3,4,5,6,7] hN rfl rfl rfl ?_ ?_ ?_|refine XK.outYN [0,1,2,3,4,5,6,7] hN rfl rfl rfl ?_ ?_ ?_)
      ·exact frI
      ·rfl
      ·rfl
    ·have h6:¬mm.left-1=0:=h6
     rw[if_neg h6]
     refine XK.w ?_
     (first|refine XK.outY [0,1,2,3,4,5,6,7] hN rfl rfl rfl ?_ ?_ ?_|refine XK.outYN [0,1,2,3,4,5,6,7] hN rfl rfl rfl ?_ ?_ ?_)
     ·exact frI
     ·rfl
     ·rfl
 ·have hd2:0≤(mapRun (tickM k free) w k.clauses.length).day∧(mapRun (tickM k free) w k.clauses.length).day≤100000:=hd
  have hd3:(mapRun (tickM k free) w k.clauses.length).day=w.day:=rfl
  rw[←hd3]
  generalize mapRun (tickM k free) w k.clauses.length=w2 at*
  refine XK.w ?_
  refine XK.weak (Weak.of (L:=[(1,.ptr 101 0)]) (O:=(101,.cells 72 [.ptr 0 0])::wN k {w2 with day:=w2.day+1}) (nx:=4000) (nt:=89) (md:=fun _=>false) hN rfl rfl rfl frI frI) ?_
  refine XK.r ?_
  refine XL.callMA [0,1,2,3] hE rfl rfl rfl rfl trivial (wstart_ok k hk {w2 with day:=w2.day+1}) rfl rfl rfl rfl rfl ?_
  refine XL.e ?_
  refine XK.t [0,1,2,3] ?_ ?_
  ·exact frI
  ·exact frI
end
section
open Go.Eng
theorem doerM_ok (k:K) (hk:KFacts k) (w:Wk) (a:Nat) (ha:a<k.acts.length):DoesM Tryz.prog 64 [kV k,.agg [.c (.int .i64 w.day),.vec 0 0,.vec 1 0,.vec 2 0],.c (.int .i64 a)] (wRows k w) (.c (.int .i64 (doerW k w.hold a))) (wRows k w):=by
 refine DoesM.mk (fun _=>false) 100 TT_ok Tryz.func64 rfl (by kernel_rfl) Tryz.ntmps64 rfl rfl rfl fun E hT hE hN hR=>?_
 have hm:=mixO hE
 have fc:k.acts.getD (a:Int).toNat default=acAt k a:=rfl
 have hr:=(actF (hk.act a ha)).1
 refine XK.w ?_
 rw[fc]
 generalize hx:acAt k a=x at*
 refine XK.c ?_ ?_<;>intro h0<;>try simp at h0
 ·refine XK.w ?_
  refine XK.t [0,1,2] ?_ ?_
  ·exact frI
  ·rw[doerW,hx,if_pos h0];exact AvIs.refl _
 ·refine XK.w ?_
  rw[fc]
  refine XK.t [0,1,2] ?_ ?_
  ·exact frI
  ·rw[doerW,hx,if_neg h0]
   rfl
def fxA:Ob:=.vec 129 1 0 5 (rowOf [.c .nilFunc,.fn (.func 62) [] [],.fn (.func 63) [] [],.fn (.func 58) [] [],.fn (.func 58) [] []] 1)
theorem wact_ok (k:K) (hk:KFacts k) (w:Wk) (a:Nat) (ha:a<k.acts.length) (hl:∀i,i<k.clauses.length→runsM (w.mark i)=true→RunF k (clAt k i) (w.mark i)):DoesM Tryz.prog 36 [.ptr 0 0,.c (.int .i64 a)] (wOs k w) (.tup []) (wOs k (actW' k w a)):=by
 refine DoesM.mk (fun _=>false) 100 TT_ok Tryz.func36 rfl (by kernel_rfl) Tryz.ntmps36 rfl rfl rfl fun E hT hE hN hR=>?_
 have hm:=mixO hE
 have hnc:=hk.nc
 have fc:k.acts.getD (a:Int).toNat default=acAt k a:=rfl
 refine XK.w ?_
 refine XK.weak (Weak.trans (Weak.frozenC (k:=103) hN rfl rfl rfl) (Weak.trans (Weak.frozenC (k:=236) hN rfl rfl rfl) (Weak.of (L:=[(2,.ptr 102 0),(3,.rptr [.c (.int .i64 (a:Nat))]),(4,.rptr (actC (acAt k a))),(30,.c (.bool ((acAt k a).kind !=1&&w.used a)))]) (O:=(102,.cells 72 [.ptr 0 0])::wN k w) (nx:=1000) (nt:=132) (md:=fun _=>false) hN rfl rfl rfl frI frI))) ?_
 unfold actW'
 refine XK.c ?_ ?_<;>intro h1<;>try simp at h1
 ·rw[if_pos (show(acAt k a).kind≠1∧w.used a=true by simpa using h1)]
  refine XK.w ?_
  refine XK.t [0,1,2,3] ?_ ?_
  ·exact frI
  ·exact frI
 ·rw[if_neg (show ¬((acAt k a).kind≠1∧w.used a=true) by simpa using h1)]
  clear h1
  have hpre:preA k w a=mapRun (effM k a (doerW k w.hold a)) (mapRun (pauseM k a) w k.clauses.length) k.clauses.length:=rfl
  have hl1:∀i,i<k.clauses.length→runsM ((mapRun (pauseM k a) w k.clauses.length).mark i)=true→RunF k (clAt k i) ((mapRun (pauseM k a) w k.clauses.length).mark i):=fun i hi hr=>by
   rw[mapRun_mk hi] at hr ⊢
   split at hr
   ·rename_i h2
    rw[if_pos h2]
    exact pause_keep (hl i hi h2) (by omega)
   ·rename_i h2
    exact absurd hr h2
  have hd1:doerW k (mapRun (pauseM k a) w k.clauses.length).hold a=doerW k w.hold a:=rfl
  refine XK.r ?_
  refine XL.callMA [0,1,2,3,701] hE rfl rfl rfl rfl trivial (wrunning_ok k w) rfl rfl rfl rfl rfl ?_
  refine XL.e ?_
  refine XK.weak (Weak.of (L:=[(2,.ptr 102 0),(3,.rptr [.c (.int .i64 (a:Nat))]),(4,.rptr (actC (acAt k a))),(32,.fn (.func 108) [] [.ptr 701 0])]) (O:=(701,.cells 72 [.ptr 0 0])::(102,.cells 72 [.ptr 0 0])::wN k w) (nx:=2000) (nt:=132) (md:=fun _=>false) hN rfl rfl rfl frI frI) ?_
  refine XK.rangeFunc 900 [701,0,1,2,3,102] (frL 132 [(2,.ptr 102 0),(3,.rptr [.c (.int .i64 (a:Nat))])])
   (ST.of [(2,.ptr 102 0),(3,.rptr [.c (.int .i64 (a:Nat))]),(4,.rptr (actC (acAt k a)))] ((102,.cells 72 [.ptr 0 0])::wN k (mapRun (pauseM k a) w k.clauses.length)) 3000 132 (fun _=>false))
   (res:=.tup []) (args':=[.ptr 1 0]) (s:=.ready) (pend:=none) (O':=itP k a (mapRun (pauseM k a) w k.clauses.length)) (O:=itP k a w) hR rfl trivial rfl (frL_length _ _) (frL_is frI) (fun L D fn=>?_) rfl frI rfl rfl frI rfl rfl (by simp) (fun L D fn cs=>(Weak.of hN rfl rfl rfl frI frI)) ?_
  ·rw[hE]
   refine runItP_ok k a hk w (pauseM k a) L L (recOf fn _ _ _ D .ready none) (fun i hi hr=>?_)
   have hs:=mapRun_succ (pauseM k a) w i
   rw[if_pos hr] at hs
   have hm0:(mapRun (pauseM k a) w i).mark i=w.mark i:=mapRun_ge (Nat.lt_irrefl i)
   rw[hs]
   generalize mapRun (pauseM k a) w i=w2 at*
   have fc2:k.clauses.getD (i:Int).toNat default=clAt k i:=rfl
   refine DoesR.mkT TT_ok (fun _=>false) 100 (ST.of [(2,.ptr 6 0),(3,.rptr [.c (.int .i64 (a:Nat))]),(5,.c (.int .i64 i))] ((0,.lrec (recOf fn _ _ _ D .ready none) L (csP k a))::itNP k a w2) 1000 132 (fun _=>false)) rfl ?_ (Nat.le_refl 6) (fun E hT hE hN hR=>?_) rfl (fun E hT hE hN hR=>?_)
   ·intro x hx
    simp only[List.mem_toArray,List.mem_singleton] at hx
    subst hx
    show 33<(frL 132 _).length
    rw[frL_length]
    omega
   ·have hm:=mixO hE
    refine XK.w ?_
    exact XK.nil ⟨rfl,(Weak.of hN rfl rfl rfl frI frI)⟩
   ·have hm:=mixO hE
    unfold pauseM
    refine XK.w ?_
    rw[fc2]
    refine XK.c ?_ ?_<;>intro h5<;>try simp at h5
    ·rw[if_pos (show(a:Int)=(clAt k i).pause by simpa using h5),←hm0]
     refine XK.w ?_
     (first|refine XK.outY [0,1,2,3,4,5,6] hN rfl rfl rfl ?_ ?_ ?_|refine XK.outYN [0,1,2,3,4,5,6] hN rfl rfl rfl ?_ ?_ ?_)
     ·(repeat' (first|exact rfl|exact AvIs.refl _|exact trivial|exact fun _ _=>rfl|exact fun _ _=>⟨rfl,AvIs.refl _⟩|exact fun _ hi=>absurd hi (Nat.not_lt_zero _)|(intro i hi;cases Nat.lt_one_iff.1 hi;rfl)|(intro j hj;by_cases hji:j=(i);(· subst hji;simp[setRowF,setL,mkC,Wk.upM];done);(· simp[setRowF,beq_false hji,Wk.upM,hji,lt_succ_ne hji];done))|refine⟨?_,?_⟩))
     ·rfl
     ·rfl
    ·rw[if_neg (show ¬(a:Int)=(clAt k i).pause by simpa using h5),←hm0]
     refine XK.w ?_
     rw[fc2]
     refine XK.c ?_ ?_<;>intro h6<;>try simp at h6
     ·rw[if_pos (show(a:Int)=(clAt k i).resume by simpa using h6)]
      refine XK.w ?_
      (first|refine XK.outY [0,1,2,3,4,5,6] hN rfl rfl rfl ?_ ?_ ?_|refine XK.outYN [0,1,2,3,4,5,6] hN rfl rfl rfl ?_ ?_ ?_)
      ·(repeat' (first|exact rfl|exact AvIs.refl _|exact trivial|exact fun _ _=>rfl|exact fun _ _=>⟨rfl,AvIs.refl _⟩|exact fun _ hi=>absurd hi (Nat.not_lt_zero _)|(intro i hi;cases Nat.lt_one_iff.1 hi;rfl)|(intro j hj;by_cases hji:j=(i);(· subst hji;simp[setRowF,setL,mkC,Wk.upM];done);(· simp[setRowF,beq_false hji,Wk.upM,hji,lt_succ_ne hji];done))|refine⟨?_,?_⟩))
      ·rfl
      ·rfl
     ·rw[if_neg (show ¬(a:Int)=(clAt k i).resume by simpa using h6),upM_self]
      refine XK.w ?_
      (first|refine XK.outY [0,1,2,3,4,5,6] hN rfl rfl rfl ?_ ?_ ?_|refine XK.outYN [0,1,2,3,4,5,6] hN rfl rfl rfl ?_ ?_ ?_)
      ·exact frI
      ·rfl
      ·rfl
  ·generalize mapRun (pauseM k a) w k.clauses.length=w1 at*
   rw[←hd1] at hpre
   refine XK.w ?_
   refine XK.weak (Weak.of (L:=[(2,.ptr 102 0),(3,.rptr [.c (.int .i64 (a:Nat))]),(4,.rptr (actC (acAt k a))),(6,.vptr 3006 0 1 0 0)]) (O:=(102,.cells 72 [.ptr 0 0])::(3006,fxA)::wN k w1) (nx:=4000) (nt:=132) (md:=fun _=>false) hN rfl rfl rfl frI frI) ?_
   have hdm:=doerM_ok k hk w1 a ha
   generalize doerW k w1.hold a=by_ at*
   refine XK.s ?_
   refine XD.callMA [1,2,3] hE rfl rfl rfl rfl trivial (hdm) rfl rfl rfl rfl rfl ?_
   refine XD.e ?_
   refine XK.weak (Weak.trans (Weak.frozenC (k:=4007) hN rfl rfl rfl) (Weak.of (L:=[(2,.ptr 102 0),(3,.rptr [.c (.int .i64 (a:Nat))]),(4,.rptr (actC (acAt k a))),(6,.vptr 3006 0 1 0 0),(7,.rptr [.c (.int .i64 by_)])]) (O:=(102,.cells 72 [.ptr 0 0])::(3006,fxA)::wN k w1) (nx:=5000) (nt:=132) (md:=fun _=>false) hN rfl rfl rfl frI frI)) ?_
   refine XK.r ?_
   refine XL.callMA [0,1,2,3,701] hE rfl rfl rfl rfl trivial (wrunning_ok k w1) rfl rfl rfl rfl rfl ?_
   refine XL.e ?_
   refine XK.weak (Weak.of (L:=[(2,.ptr 102 0),(3,.rptr [.c (.int .i64 (a:Nat))]),(4,.rptr (actC (acAt k a))),(6,.vptr 3006 0 1 0 0),(7,.rptr [.c (.int .i64 by_)]),(85,.fn (.func 108) [] [.ptr 701 0])]) (O:=(701,.cells 72 [.ptr 0 0])::(102,.cells 72 [.ptr 0 0])::(3006,fxA)::wN k w1) (nx:=6000) (nt:=132) (md:=fun _=>false) hN rfl rfl rfl frI frI) ?_
   refine XK.rangeFunc 900 [701,0,1,2,3,102,3006] (frL 132 [(2,.ptr 102 0),(3,.rptr [.c (.int .i64 (a:Nat))]),(6,.vptr 3006 0 1 0 0),(7,.rptr [.c (.int .i64 by_)])])
    (ST.of [(2,.ptr 102 0),(3,.rptr [.c (.int .i64 (a:Nat))]),(4,.rptr (actC (acAt k a)))] ((102,.cells 72 [.ptr 0 0])::wN k (mapRun (effM k a by_) w1 k.clauses.length)) 7000 132 (fun _=>false))
    (res:=.tup []) (args':=[.ptr 1 0]) (s:=.ready) (pend:=none) (O':=itA k a by_ (mapRun (effM k a by_) w1 k.clauses.length)) (O:=itA k a by_ w1) hR rfl trivial rfl (frL_length _ _) (frL_is frI) (fun L D fn=>?_) rfl frI rfl rfl frI rfl rfl (by simp) (fun L D fn cs=>(Weak.of hN rfl rfl rfl frI frI)) ?_
   ·rw[hE]
    refine runItA_ok k a by_ hk w1 (effM k a by_) L L (recOf fn _ _ _ D .ready none) (fun i hi hr=>?_)
    have hs:=mapRun_succ (effM k a by_) w1 i
    rw[if_pos hr] at hs
    have hm0:(mapRun (effM k a by_) w1 i).mark i=w1.mark i:=mapRun_ge (Nat.lt_irrefl i)
    have hrf:=hl1 i hi hr
    have hbd:=(run_bd hk hi hrf).1
    rw[hs]
    generalize mapRun (effM k a by_) w1 i=w2 at*
    have fc2:k.clauses.getD (i:Int).toNat default=clAt k i:=rfl
    have hkw:=kindW (hk.clB hi).2.2.1
    have hk4:(clAt k i).kind=1∨(clAt k i).kind=2∨(clAt k i).kind=3∨(clAt k i).kind=4:=by omega
    refine DoesR.mkT TT_ok (fun _=>false) 100 (ST.of [(2,.ptr 6 0),(3,.rptr [.c (.int .i64 (a:Nat))]),(6,.vptr 7 0 1 0 0),(7,.rptr [.c (.int .i64 by_)]),(8,.c (.int .i64 i))] ((0,.lrec (recOf fn _ _ _ D .ready none) L (csA k a by_))::itNA k a by_ w2) 1000 132 (fun _=>false)) rfl ?_ (Nat.le_refl 7) (fun E hT hE hN hR=>?_) rfl (fun E hT hE hN hR=>?_)
    ·intro x hx
     simp only[List.mem_toArray,List.mem_singleton] at hx
     subst hx
     show 86<(frL 132 _).length
     rw[frL_length]
     omega
    ·have hm:=mixO hE
     refine XK.w ?_
     exact XK.nil ⟨rfl,(Weak.of hN rfl rfl rfl frI frI)⟩
    ·have hm:=mixO hE
     unfold effM
     rw[←hm0] at hbd ⊢
     refine XK.w ?_
     rw[fc2]
     refine XK.c ?_ ?_<;>intro h5
     ·have h5:((clAt k i).act==(a:Int)&&((clAt k i).kind==4||(w2.mark i).bearer==by_))=true:=h5
      rw[if_pos (show(clAt k i).act=(a:Int)∧((clAt k i).kind=4∨(w2.mark i).bearer=by_) by simpa using h5)]
      refine XK.weak (Weak.of (L:=[(2,.ptr 6 0),(3,.rptr [.c (.int .i64 (a:Nat))]),(6,.vptr 7 0 1 0 0),(7,.rptr [.c (.int .i64 by_)]),(8,.c (.int .i64 i)),(9,.ptr 1009 0)]) (O:=(1009,.cells 61 (clC (clAt k i)))::(0,.lrec (recOf fn _ _ _ D .busy none) L (csA k a by_))::itNA k a by_ w2) (nx:=2000) (nt:=132) (md:=fun _=>false) hN rfl rfl rfl frI frI) ?_
      unfold doM
      rcases hk4 with h7|h7|h7|h7
      ·rw[if_pos h7,clC_kind h7]
       refine XK.s ?_
       refine XD.callMA [2,3,4,5] hE rfl rfl rfl rfl trivial (perform_ok k hk w2 i hi (by omega)) rfl rfl rfl rfl rfl ?_
       refine XD.e ?_
       (first|refine XK.outY [0,1,2,3,4,5,6,7] hN rfl rfl rfl ?_ ?_ ?_|refine XK.outYN [0,1,2,3,4,5,6,7] hN rfl rfl rfl ?_ ?_ ?_)
       ·exact frI
       ·rfl
       ·rfl
      ·rw[if_neg (by omega),if_pos h7,clC_kind h7]
       refine XK.s ?_
       refine XD.callMA [2,3,4,5] hE rfl rfl rfl rfl trivial (violate_ok k w2 i hi) rfl rfl rfl rfl rfl ?_
       refine XD.e ?_
       (first|refine XK.outY [0,1,2,3,4,5,6,7] hN rfl rfl rfl ?_ ?_ ?_|refine XK.outYN [0,1,2,3,4,5,6,7] hN rfl rfl rfl ?_ ?_ ?_)
       ·exact frI
       ·rfl
       ·rfl
      ·rw[if_neg (by omega),if_neg (by omega),clC_kind h7]
       refine XK.s ?_
       refine XD.callMA [2,3,4,5] hE rfl rfl rfl rfl trivial (done_ok k w2 i hi) rfl rfl rfl rfl rfl ?_
       refine XD.e ?_
       (first|refine XK.outY [0,1,2,3,4,5,6,7] hN rfl rfl rfl ?_ ?_ ?_|refine XK.outYN [0,1,2,3,4,5,6,7] hN rfl rfl rfl ?_ ?_ ?_)
       ·exact frI
       ·rfl
       ·rfl
      ·rw[if_neg (by omega),if_neg (by omega),clC_kind h7]
       refine XK.s ?_
       refine XD.callMA [2,3,4,5] hE rfl rfl rfl rfl trivial (done_ok k w2 i hi) rfl rfl rfl rfl rfl ?_
       refine XD.e ?_
       (first|refine XK.outY [0,1,2,3,4,5,6,7] hN rfl rfl rfl ?_ ?_ ?_|refine XK.outYN [0,1,2,3,4,5,6,7] hN rfl rfl rfl ?_ ?_ ?_)
       ·exact frI
       ·rfl
       ·rfl
     ·have h5:((clAt k i).act==(a:Int)&&((clAt k i).kind==4||(w2.mark i).bearer==by_))=false:=h5
      rw[if_neg (show ¬((clAt k i).act=(a:Int)∧((clAt k i).kind=4∨(w2.mark i).bearer=by_)) by simpa using h5),upM_self]
      refine XK.w ?_
      (first|refine XK.outY [0,1,2,3,4,5,6,7] hN rfl rfl rfl ?_ ?_ ?_|refine XK.outYN [0,1,2,3,4,5,6,7] hN rfl rfl rfl ?_ ?_ ?_)
      ·exact frI
      ·rfl
      ·rfl
   ·generalize mapRun (effM k a by_) w1 k.clauses.length=w3 at*
    have hpG:preG k w a=if(acAt k a).kind≠1 then giveW k w3 a else w3:=by rw[←hpre];rfl
    rw[hpG]
    refine XK.c ?_ ?_<;>intro h9<;>try simp at h9
    ·rw[if_pos h9]
     refine XK.w ?_
     refine XK.r ?_
     refine XL.callMA [0,1,2,3] hE rfl rfl rfl rfl trivial (wshift_ok k hk w3 a ha h9) rfl rfl rfl rfl rfl ?_
     refine XL.e ?_
     refine XK.r ?_
     refine XL.callMA [0,1,2,3] hE rfl rfl rfl rfl trivial (wstart_ok k hk (giveW k w3 a)) rfl rfl rfl rfl rfl ?_
     refine XL.e ?_
     refine XK.t [0,1,2,3] ?_ ?_
     ·exact frI
     ·exact frI
    ·rw[if_neg (by simpa using h9)]
     refine XK.w ?_
     refine XK.r ?_
     refine XL.callMA [0,1,2,3] hE rfl rfl rfl rfl trivial (wstart_ok k hk w3) rfl rfl rfl rfl rfl ?_
     refine XL.e ?_
     refine XK.t [0,1,2,3] ?_ ?_
     ·exact frI
     ·exact frI
end
end Go.Proofs.YtgpkkllbejgmlaaGreatDoor
