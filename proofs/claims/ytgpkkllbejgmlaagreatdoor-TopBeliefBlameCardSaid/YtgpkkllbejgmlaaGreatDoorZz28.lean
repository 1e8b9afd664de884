import Derived.Test.YtgpkkllbejgmlaaGreatDoorZz14
import Derived.Test.YtgpkkllbejgmlaaGreatDoorZz27
import Derived.Test.YtgpkkllbejgmlaaGreatDoorZz20
import Derived.Test.YtgpkkllbejgmlaaGreatDoorZz21
set_option linter.unusedSimpArgs false
set_option linter.unusedVariables false
set_option maxRecDepth 10000
namespace Go.Proofs.YtgpkkllbejgmlaaGreatDoor
section
open Go.Eng Go.RowKit Go.Lib
def popN (l:List Nat) (m:Nat):Nat:=if m=l.length then 0 else l.getD m default
theorem pop2_ok (l:List Nat) (m:Nat) (hl:l.length≤100000) (hm1:m≤l.length):DoesM Tryz.prog 138 [.ptr 0 0] [.cells 232 [.vec 1 0,.c (.int .i64 m)],itO 0 l] (.tup [.c (.int .i64 (popN l m)),.c (.bool (decide (m<l.length)))]) [.cells 232 [.vec 1 0,.c (.int .i64 (if m=l.length then m else m+1:Nat))],itO 0 l]:=by
 have h:=pop_ok l m hl hm1
 unfold popN
 by_cases e:m=l.length
 ·rw[if_pos e] at h
  rw[if_pos e,decide_eq_false (by omega)]
  exact h
 ·rw[if_neg e] at h
  rw[if_neg e,decide_eq_true (by omega)]
  exact h
theorem mapL_self {g:AV→AV}:∀l:List AV,(∀x∈l,x.map g=x)→AV.mapL g l=l
 |[],_=>rfl
 |a::l,h=>by rw[AV.mapL,h a List.mem_cons_self,mapL_self l fun x hx=>h x (List.mem_cons_of_mem _ hx)]
theorem rowsC_stamp {B k s t e b n cap:Nat} (h:Nat.blt k B=true):Ob.map (stampG k s t) (rowsC e b n cap (famG B))=rowsC e b n cap (famG B):=by
 have:=Nat.lt_of_succ_le (Nat.le_of_ble_eq_true h)
 show Ob.lrec _ b (AV.mapL _ _)=_
 rw[mapL_self]
 ·rfl
 ·intro x hx
  obtain⟨i,_,rfl⟩:=List.mem_map.1 hx
  cases Nat.blt i n with
  |false=>rfl
  |true=>
   show stampG k s t (.vec (B+i) 0)=.vec (B+i) 0
   simp[stampG,beq_false (show B+i≠k by omega)]
theorem ranks_ok (k:K) (hF:KFacts k) (p:Int) (A:ArS) (h:AW k p A) (hpos:0<A.1.ps.length):Does Tryz.prog 88 [kV k,arV p A] (.rs 1 A.1.ps.length (fun j=>[.c (.int .i64 ((rkM k p A A.1.ps.length).rk j))])):=by
 have hwf:=wellFormed_ok k hF.w p A h
 have h15:=h.max
 have hrow:=h.row
 have hml:=h.len
 refine Does.mk (fun d=>Nat.beq d 30||Nat.beq d 32||Nat.beq d 34) TT_ok Tryz.func88 rfl (by kernel_rfl) Tryz.ntmps88 rfl rfl fun E hT hE hN hR=>?_
 have hm:=mixO hE
 refine XK.r ?_
 refine XL.callKA hE rfl rfl rfl rfl trivial rfl rfl (hwf) ?_
 refine XL.e ?_
 refine XK.c ?_ ?_<;>intro hb
 ·cases hb
 refine XK.w ?_
 refine XK.weak (Weak.trans (Weak.ghostAt (c:=873) (k:=700) (i0:=0) (e:=3) (sz:=1) (f:=fun _=>[]) rfl rfl rfl rfl) (Weak.of (L:=[(8,.vec 754 0),(2,.ptr 2 0),(3,.ptr 3 0),(5,.c (.int .i64 A.1.ps.length)),(6,.ptr 438 0),(7,.ptr 583 0),(9,.ptr 873 0),(36,rowL psC 5 A.1.ps),(37,.c (.int .i64 A.1.ps.length)),(38,.c (.int .i64 (0:Nat)))])
  (O:=[(754,.vec 22 1 0 A.1.ps.length (fun _=>[.c (.slice none 0 0)])),(2,.cells 27 (kC k)),(3,.cells 107 (arC p A)),(438,.cells 22 [.vec 462 0]),(462,rkO 0 A.1.ps.length (rk1 k p A 0).rk),(583,.cells 22 [.vec 608 0]),(608,rkO 0 A.1.ps.length (rk1 k p A 0).op),(873,.cells 232 [.vec 700 0,.c (.int .i64 0)]),(700,itO 0 (rk1 k p A 0).it)])
  (nx:=2000) (nt:=144) (md:=fun d=>Nat.beq d 30||Nat.beq d 32||Nat.beq d 34) hN rfl rfl rfl frI (by(repeat' (first|exact rfl|exact AvIs.refl _|exact trivial|exact fun _ _=>rfl|exact fun _ _=>⟨rfl,AvIs.refl _⟩|exact cI (by omega)|exact(fun i hi=>absurd hi (Nat.not_lt_zero _))|refine⟨?_,?_⟩))))) ?_
 refine XK.rowsIn (B:=1000000) (u2:=3) (sz:=1) (famN (befA A 0)) (fun i=>rfl) hN rfl rfl rfl hpos (fun i hi=>rfl) fun b cap hcap hcmx=>?_
 refine XK.loop (ι:=Nat) (fun i=>⟨mkFr [(8,rowsH b A.1.ps.length cap),(2,.ptr 2 0),(3,.ptr 3 0),(5,.c (.int .i64 A.1.ps.length)),(6,.ptr 438 0),(7,.ptr 583 0),(9,.ptr 873 0),(36,rowL psC 5 A.1.ps),(37,.c (.int .i64 A.1.ps.length)),(38,.c (.int .i64 i))],
   obF 1000000 3 1 (famN (befA A i)) ((754,rowsC 22 b A.1.ps.length cap (famG 1000000))::[(2,.cells 27 (kC k)),(3,.cells 107 (arC p A)),(438,.cells 22 [.vec 462 0]),(462,rkO 0 A.1.ps.length (rk1 k p A i).rk),(583,.cells 22 [.vec 608 0]),(608,rkO 0 A.1.ps.length (rk1 k p A i).op),(873,.cells 232 [.vec 700 0,.c (.int .i64 0)]),(700,itO 0 (rk1 k p A i).it)]),3000,144,fun d=>Nat.beq d 30||Nat.beq d 32||Nat.beq d 34⟩)
  (fun i=>i≤A.1.ps.length) (fun i=>A.1.ps.length -i) 0 (Nat.zero_le _)
  (Weak.rowsOf hN rfl rfl frI frI rfl (Nat.le_refl _) (fun i hi=>rfl) (fun j hj=>by(try dsimp only);(repeat (rw[upd_big hj rfl]));exact obF_ge hj)) fun i hi=>?_
 refine XK.c ?_ ?_<;>intro hlt<;>try simp at hlt
 ·have hlt:i<A.1.ps.length:=by omega
  have fp:A.1.ps.getD (i:Int).toNat default=psAt A.1.ps i:=rfl
  have fm:A.2.getD (i:Int).toNat default=A.2.getD i []:=rfl
  have hall:=rowJ_all A i
  have hbl:=befA_len A hrow i (by omega)
  have hli:=hrow i hlt
  have hto:=h.lt i hlt
  have hopE:(rk1 k p A (i+1)).op=fun j=>if j=i then((A.2.getD i []).length:Int) else(rk1 k p A i).op j:=by
   funext j
   show(if j<i+1 then((mvN A j).length:Int) else 0)=if j=i then _ else(if j<i then((mvN A j).length:Int) else 0)
   by_cases e:j=i
   ·subst e
    rw[if_pos (by omega),if_pos rfl]
    unfold mvN
    rw[List.length_map]
   ·rw[if_neg e]
    by_cases e2:j<i
    ·rw[if_pos e2,if_pos (by omega)]
    ·rw[if_neg e2,if_neg (by omega)]
  have hrkE:∀z,(∀j,(fun j=>if j=i then z else(rk1 k p A i).rk j) j=(if j=i then z else(rk1 k p A i).rk j)):=fun z j=>rfl
  refine XK.w ?_
  try rw[fp]
  try rw[fm]
  generalize hy:psAt A.1.ps i=y at*
  generalize hL:A.2.getD i []=L at*
  generalize hrkI:(fun j=>if j=i then(-1:Int) else(rk1 k p A i).rk j)=rkI
  refine XK.loop (ι:=Nat) (fun j=>⟨mkFr [(8,rowsH b A.1.ps.length cap),(2,.ptr 2 0),(3,.ptr 3 0),(5,.c (.int .i64 A.1.ps.length)),(6,.ptr 438 0),(7,.ptr 583 0),(9,.ptr 873 0),(10,.c (.int .i64 i)),(11,.ptr 3155 0),(36,rowL psC 5 A.1.ps),(37,.c (.int .i64 A.1.ps.length)),(38,.c (.int .i64 i)),(59,rowL mvC 2 L),(60,.c (.int .i64 L.length)),(61,.c (.int .i64 j))],obF 1000000 3 1 (famN (rowJ (befA A i) i L j)) ((754,rowsC 22 b A.1.ps.length cap (famG 1000000))::[(2,.cells 27 (kC k)),(3,.cells 107 (arC p A)),(438,.cells 22 [.vec 462 0]),(462,rkO 0 A.1.ps.length rkI),(583,.cells 22 [.vec 608 0]),(608,rkO 0 A.1.ps.length (rk1 k p A (i+1)).op),(873,.cells 232 [.vec 700 0,.c (.int .i64 0)]),(700,itO 0 (rk1 k p A i).it),(3155,.cells 50 (psC y))]),5000,144,fun d=>Nat.beq d 30||Nat.beq d 32||Nat.beq d 34⟩)
   (fun j=>j≤L.length) (fun j=>L.length-j) 0 (Nat.zero_le _)
   (Weak.rowsOf hN rfl rfl frI ⟨frI,frI,frI,⟨⟨rfl,rfl,rfl⟩,rfl,by rw[←hrkI];exact rk_set A.1.ps.length (rk1 k p A i).rk i (-1) _ rfl⟩,frI,⟨⟨rfl,rfl,rfl⟩,rfl,by rw[hopE];exact rk_set A.1.ps.length (rk1 k p A i).op i L.length _ rfl⟩,frI,frI,frI⟩ rfl (Nat.le_refl _) (fun i hi=>rfl) (fun j hj=>by(try dsimp only);(repeat (rw[upd_big hj rfl]));exact obF_ge hj)) fun j hj=>?_
  refine XK.c ?_ ?_<;>intro hjl<;>try simp at hjl
  ·have hjl:j<L.length:=by omega
   have fz:L.getD (j:Int).toNat default=L.getD j default:=rfl
   have hm2:=hto (L.getD j default) (by rw[List.getD_eq_getElem?_getD,List.getElem?_eq_getElem hjl];exact List.getElem_mem hjl)
   have hrl:=rowJ_len (befA A i) i L (100*i) hbl j
   have hnx:rowJ (befA A i) i L (j+1)=addN (rowJ (befA A i) i L j) (L.getD j default).2 i:=rfl
   refine XK.w ?_
   rw[fz]
   generalize L.getD j default=mm at*
   generalize hg:rowJ (befA A i) i L j=g at*
   have hgb:(famN g mm.2).1≤200000:=by have:=hrl mm.2;show(g mm.2).length≤_;omega
   have hgb':(famN g mm.2).1+1≤300000:=by omega
   refine XK.weak (Weak.trans (Weak.rowsOf (B:=1000000) (k:=754) (e:=22) (u2:=3) (sz:=1) (b:=b) (cap:=cap) (F:=famN g) (L:=[(13,.ptr 5157 0),(8,rowsH b A.1.ps.length cap),(2,.ptr 2 0),(3,.ptr 3 0),(5,.c (.int .i64 A.1.ps.length)),(6,.ptr 438 0),(7,.ptr 583 0),(9,.ptr 873 0),(10,.c (.int .i64 i)),(11,.ptr 3155 0),(36,rowL psC 5 A.1.ps),(37,.c (.int .i64 A.1.ps.length)),(38,.c (.int .i64 i)),(59,rowL mvC 2 L),(60,.c (.int .i64 L.length)),(61,.c (.int .i64 j))]) (O:=(5157,.cells 175 (mvC mm))::[(2,.cells 27 (kC k)),(3,.cells 107 (arC p A)),(438,.cells 22 [.vec 462 0]),(462,rkO 0 A.1.ps.length rkI),(583,.cells 22 [.vec 608 0]),(608,rkO 0 A.1.ps.length (rk1 k p A (i+1)).op),(873,.cells 232 [.vec 700 0,.c (.int .i64 0)]),(700,itO 0 (rk1 k p A i).it),(3155,.cells 50 (psC y))]) (nx:=6000) (md:=fun _=>false) hN rfl rfl frI frI rfl (Nat.le_refl _) (fun i hi=>rfl) (fun j hj=>by(try dsimp only);(repeat (rw[upd_big hj rfl]));exact obF_ge hj)) (Weak.rowsOpen 701 mm.2 hN rfl rfl rfl rfl rfl rfl rfl)) ?_
   refine XK.drawn hm ?_
   refine XD.mv (y:=rowsH b A.1.ps.length cap) rfl rfl rfl rfl rfl ?_
   refine XD.goN 2 hT rfl rfl rfl rfl rfl rfl ?_ ?_
   ·exact trivial
   refine XD.mv (y:=rowsH b A.1.ps.length cap) rfl rfl rfl rfl rfl ?_
   refine XD.goN 2 hT rfl rfl rfl rfl rfl rfl ?_ ?_
   ·exact trivial
   refine XD.loc (Local.rowsAt (b:=b) (n:=A.1.ps.length) (cap:=cap) hT rfl rfl rfl rfl rfl rfl rfl rfl rfl ⟨by omega,by omega⟩) ?_
   refine XD.loc (Local.rowsLoad (k:=754) (b:=b) (j:=mm.2) (n:=A.1.ps.length) (cap:=cap) (g:=famQ 1000000 701 mm.2) (y:=.vec 701 0) (e:=22) hT rfl rfl rfl rfl rfl rfl rfl ⟨hm2,hcap⟩ (by simp[famQ])) ?_
   refine XD.goN 3 hT rfl rfl rfl rfl rfl rfl ?_ ?_
   ·refine⟨by omega,by show _*8≤_;omega,fun q hq=>?_⟩
    cases Nat.lt_one_iff.1 hq;rfl
   refine XD.loc (Local.rowsAt (b:=b) (n:=A.1.ps.length) (cap:=cap) hT rfl rfl rfl rfl rfl rfl rfl rfl rfl ⟨by omega,by omega⟩) ?_
   refine XD.loc (Local.rowsStore (k:=754) (q:=701) (s:=1) (b:=b) (j:=mm.2) (n:=A.1.ps.length) (cap:=cap) (g:=famQ 1000000 701 mm.2) (e:=22) hT rfl rfl rfl rfl rfl rfl rfl rfl rfl ⟨hm2,hcap⟩) ?_
   refine XD.e ?_
   refine XK.inv ⟨j+1,hjl,?_,by omega⟩
   rw[hnx]
   exact Weak.rowsClose 701 mm.2 (famN (addN g mm.2 i)) hN rfl rfl frI frI rfl rfl (fun j hj=>by(try dsimp only);(repeat (rw[upd_big hj rfl]));exact obQ_ge hj) (fun v _=>by show(bif Nat.beq v mm.2 then AV.vec 701 1 else bif Nat.beq v mm.2 then AV.vec 701 0 else AV.vec (1000000+v) 0)=_;cases Nat.beq v mm.2<;>rfl)
    (by show((addN g mm.2 i) mm.2).length=(g mm.2).length+1;unfold addN;rw[if_pos rfl];simp)
    (fun q hq=>by
     have:=row_snocD (fun q:Nat=>[AV.c (.int .i64 (q:Nat))]) (g mm.2) i (rowOf [AV.c (.int .i64 (i:Nat))] 1) rfl q hq
     refine Eq.trans ?_ this
     show[AV.c (.int .i64 (((addN g mm.2 i) mm.2).getD q default:Nat))]=_
     unfold addN
     rw[if_pos rfl])
    (fun q hq=>by
     have:(addN g mm.2 i) q=g q:=by unfold addN;rw[if_neg hq]
     show famN (addN g mm.2 i) q=famN g q
     unfold famN
     rw[this])
  ·have hje:j=L.length:=by omega
   subst hje
   rw[hall]
   have hvy:=h.valid i hlt
   rw[hy] at hvy
   have hlo:=rlost_ok k hF y.1 (validS_len hvy).2.2.2.1 p
   have hle:lostN k p A i=lostS k y.1 p:=by unfold lostN;rw[hy]
   have hit:(rk1 k p A (i+1)).it=(rk1 k p A i).it++(if lostS k y.1 p=true then[i] else[]):=by
    show List.filter _ _=List.filter _ _++_
    rw[List.range_succ,List.filter_append,←hle]
    cases hq:lostN k p A i<;>simp[hq]
   have hrk:∀j,(rk1 k p A (i+1)).rk j=if lostS k y.1 p=true then(if j=i then 0 else rkI j) else rkI j:=by
    intro j
    rw[←hrkI]
    show(if j<i+1 then(if lostN k p A j=true then 0 else -1) else 0)=_
    by_cases e:j=i
    ·subst e
     rw[hle]
     by_cases q:lostS k y.1 p=true
     ·rw[if_pos (by omega),if_pos q,if_pos q,if_pos rfl]
     ·rw[if_pos (by omega),if_neg q,if_neg q]
      show(-1:Int)=if j=j then -1 else _
      rw[if_pos rfl]
    ·have e1:(if j=i then(-1:Int) else(rk1 k p A i).rk j)=(rk1 k p A i).rk j:=if_neg e
     have e2:(if j<i+1 then(if lostN k p A j=true then 0 else -1) else 0)=(rk1 k p A i).rk j:=by
      show _=(if j<i then(if lostN k p A j=true then 0 else -1) else 0)
      by_cases q:j<i
      ·rw[if_pos (by omega),if_pos q]
      ·rw[if_neg (by omega),if_neg q]
     show _=if lostS k y.1 p=true then(if j=i then 0 else(if j=i then(-1:Int) else(rk1 k p A i).rk j)) else(if j=i then(-1:Int) else(rk1 k p A i).rk j)
     rw[e2,e1,if_neg e]
     split<;>rfl
   have hil:(rk1 k p A i).it.length≤1500:=by
    have:=List.length_filter_le (lostN k p A) (List.range i)
    rw[List.length_range] at this
    show(List.filter _ _).length≤_
    omega
   have hpu:=push_ok (rk1 k p A i).it 0 i (by omega)
   generalize lostS k y.1 p=lv at*
   refine XK.w ?_
   refine XK.r ?_
   refine XL.callLA hE rfl rfl rfl rfl trivial rfl (hlo) rfl ?_
   refine XL.e ?_
   refine XK.c ?_ ?_<;>intro h5
   ·have h5:lv=true:=h5
    subst h5
    rw[if_pos rfl] at hit
    simp only[if_true] at hrk
    refine XK.w ?_
    refine XK.r ?_
    refine XL.callMA [873,700] hE rfl rfl rfl rfl trivial (hpu) rfl rfl rfl rfl rfl ?_
    refine XL.e ?_
    refine XK.inv ⟨i+1,hlt,?_,by omega⟩
    rw[hit]
    exact Weak.trans (Weak.stamp (k:=700) (t:=0) hN rfl rfl) (Weak.rowsOf hN rfl rfl frI ⟨frI,frI,frI,⟨⟨rfl,rfl,rfl⟩,rfl,fun q hq=>by
     show[AV.c (.int .i64 ((rk1 k p A (i+1)).rk q))]=_
     rw[hrk q]
     exact rk_set A.1.ps.length rkI i 0 _ rfl q hq⟩,frI,frI,frI,frI⟩ (by show some (Ob.map _ (rowsC _ _ _ _ _))=_;rw[rowsC_stamp rfl]) (Nat.le_refl _) (fun i hi=>rfl) (fun j hj=>ST.stamp_vec hj rfl (by dsimp only[putAll];(repeat (rw[upd_big hj rfl]));exact obF_ge hj)))
   ·have h5:lv=false:=h5
    subst h5
    rw[if_neg (by simp),List.append_nil] at hit
    simp only[Bool.false_eq_true,if_false] at hrk
    refine XK.w ?_
    refine XK.inv ⟨i+1,hlt,?_,by omega⟩
    rw[hit,show(rk1 k p A (i+1)).rk=rkI from funext hrk]
    exact Weak.rowsOf hN rfl rfl frI frI rfl (Nat.le_refl _) (fun i hi=>rfl) (fun j hj=>by(try dsimp only);(repeat (rw[upd_big hj rfl]));exact obF_ge hj)
 have hie:i=A.1.ps.length:=by omega
 subst hie
 clear hi hlt
 have z1:∀q,q<A.1.ps.length→(rk2 k p A 0).rk q=(rk1 k p A A.1.ps.length).rk q:=fun q hq=>by
  show(if q<A.1.ps.length∧lostN k p A q=true then 0 else if q<0∧endN k p A q=true then 1 else -1)=(if q<A.1.ps.length then(if lostN k p A q=true then 0 else -1) else 0)
  rw[if_pos hq]
  by_cases e:lostN k p A q=true
  ·rw[if_pos ⟨hq,e⟩,if_pos e]
  ·rw[if_neg (fun r=>e r.2),if_neg e,if_neg (fun r=>absurd r.1 (Nat.not_lt_zero _))]
 have z2:∀q,q<A.1.ps.length→(rk2 k p A 0).op q=(rk1 k p A A.1.ps.length).op q:=fun q hq=>by
  show((mvN A q).length:Int)=if q<A.1.ps.length then((mvN A q).length:Int) else 0
  rw[if_pos hq]
 have z3:(rk2 k p A 0).it=(rk1 k p A A.1.ps.length).it:=List.append_nil _
 refine XK.weak (Weak.trans (Weak.rowsOf (B:=1000000) (k:=754) (e:=22) (u2:=3) (sz:=1) (b:=b) (n':=A.1.ps.length) (cap:=cap) (F:=famN (befA A A.1.ps.length)) (L:=[(8,rowsH b A.1.ps.length cap),(2,.ptr 2 0),(3,.ptr 3 0),(6,.ptr 438 0),(7,.ptr 583 0),(9,.ptr 873 0)]) (O:=[(2,.cells 27 (kC k)),(3,.cells 107 (arC p A)),(438,.cells 22 [.vec 462 0]),(462,rkO 0 A.1.ps.length (rk1 k p A A.1.ps.length).rk),(583,.cells 22 [.vec 608 0]),(608,rkO 0 A.1.ps.length (rk1 k p A A.1.ps.length).op),(873,.cells 232 [.vec 700 0,.c (.int .i64 0)]),(700,itO 0 (rk1 k p A A.1.ps.length).it)]) (nx:=6000) (md:=fun _=>false) hN rfl rfl frI frI rfl (Nat.le_refl _) (fun i hi=>rfl) (fun j hj=>by(try dsimp only);(repeat (rw[upd_big hj rfl]));exact obF_ge hj)) (Weak.trans (Weak.rowsOut hN rfl rfl rfl hcap hcmx)
  (Weak.of (L:=[(8,.rs 1 A.1.ps.length (fun i=>[.rs 1 (famN (befA A A.1.ps.length) i).1 (famN (befA A A.1.ps.length) i).2])),(2,.ptr 2 0),(3,.ptr 3 0),(6,.ptr 438 0),(7,.ptr 583 0),(9,.ptr 873 0)]) (O:=[(2,.cells 27 (kC k)),(3,.cells 107 (arC p A)),(438,.cells 22 [.vec 462 0]),(462,rkO 0 A.1.ps.length (rk2 k p A 0).rk),(583,.cells 22 [.vec 608 0]),(608,rkO 0 A.1.ps.length (rk2 k p A 0).op),(873,.cells 232 [.vec 700 0,.c (.int .i64 0)]),(700,itO 0 (rk2 k p A 0).it)]) (nx:=7000) (nt:=144) (md:=fun _=>false) hN rfl rfl rfl frI ⟨frI,frI,frI,⟨⟨rfl,rfl,rfl⟩,rfl,fun q hq=>by show[AV.c (.int .i64 ((rk2 k p A 0).rk q))]=_;rw[z1 q hq]⟩,frI,⟨⟨rfl,rfl,rfl⟩,rfl,fun q hq=>by show[AV.c (.int .i64 ((rk2 k p A 0).op q))]=_;rw[z2 q hq]⟩,frI,⟨⟨rfl,rfl,rfl⟩,by rw[z3],fun q hq=>by show[AV.c (.int .i64 (((rk2 k p A 0).it.getD q default:Nat)))]=_;rw[z3]⟩⟩))) ?_
 refine XK.w ?_
 refine XK.loop (ι:=Nat) (fun i=>ST.of [(8,.rs 1 A.1.ps.length (fun i=>[.rs 1 (famN (befA A A.1.ps.length) i).1 (famN (befA A A.1.ps.length) i).2])),(2,.ptr 2 0),(3,.ptr 3 0),(6,.ptr 438 0),(7,.ptr 583 0),(9,.ptr 873 0),(14,.ptr 7014 0),(92,rowL psC 5 A.1.ps),(93,.c (.int .i64 A.1.ps.length)),(94,.c (.int .i64 i))] [(2,.cells 27 (kC k)),(3,.cells 107 (arC p A)),(438,.cells 22 [.vec 462 0]),(462,rkO 0 A.1.ps.length (rk2 k p A i).rk),(583,.cells 22 [.vec 608 0]),(608,rkO 0 A.1.ps.length (rk2 k p A i).op),(873,.cells 232 [.vec 700 0,.c (.int .i64 0)]),(700,itO 0 (rk2 k p A i).it),(7014,.cells 205 [.fn (.func 136) [] [.ptr 438 0,.ptr 873 0]])] 8000 144 (fun _=>false))
  (fun i=>i≤A.1.ps.length) (fun i=>A.1.ps.length -i) 0 (Nat.zero_le _) (Weak.of hN rfl rfl rfl frI frI) fun i hi=>?_
 refine XK.c ?_ ?_<;>intro hlt<;>try simp at hlt
 ·have hlt:i<A.1.ps.length:=by omega
  have fp:A.1.ps.getD (i:Int).toNat default=psAt A.1.ps i:=rfl
  have f1:(rk2 k p A i).rk (i:Int).toNat=(rk2 k p A i).rk i:=rfl
  have f2:(rk2 k p A i).op (i:Int).toNat=(rk2 k p A i).op i:=rfl
  have hrki:(rk2 k p A i).rk i=if lostN k p A i=true then 0 else -1:=by
   show(if i<A.1.ps.length∧lostN k p A i=true then 0 else if i<i∧endN k p A i=true then 1 else -1)=_
   by_cases e:lostN k p A i=true
   ·rw[if_pos ⟨hlt,e⟩,if_pos e]
   ·rw[if_neg (fun r=>e r.2),if_neg e,if_neg (fun r=>absurd r.1 (Nat.lt_irrefl _))]
  have hopi:(rk2 k p A i).op i=((mvN A i).length:Int):=rfl
  have hend:endN k p A i=((psAt A.1.ps i).2&&((rk2 k p A i).op i==0)&&((rk2 k p A i).rk i==-1)):=by
   rw[hrki,hopi]
   unfold endN ownN
   cases lostN k p A i<;>cases hq:mvN A i<;>simp
   omega
  have hni:(rk2 k p A (i+1)).it=(rk2 k p A i).it++(if endN k p A i=true then[i] else[]):=by
   show List.filter _ _++List.filter _ _=(List.filter _ _++List.filter _ _)++_
   rw[List.range_succ,List.filter_append,List.append_assoc]
   cases hq:endN k p A i<;>simp[hq]
  have hnr:∀j,(rk2 k p A (i+1)).rk j=if endN k p A i=true then(if j=i then 1 else(rk2 k p A i).rk j) else(rk2 k p A i).rk j:=by
   intro j
   show(if j<A.1.ps.length∧lostN k p A j=true then 0 else if j<i+1∧endN k p A j=true then 1 else -1)=if _ then(if j=i then 1 else(if j<A.1.ps.length∧lostN k p A j=true then 0 else if j<i∧endN k p A j=true then 1 else -1)) else(if j<A.1.ps.length∧lostN k p A j=true then 0 else if j<i∧endN k p A j=true then 1 else -1)
   by_cases e:j=i
   ·subst e
    by_cases q:endN k p A j=true
    ·have q2:lostN k p A j=false:=by unfold endN at q;simp at q;exact q.2
     rw[if_pos q,if_pos rfl,q2,if_neg (by simp),if_pos ⟨by omega,q⟩]
    ·rw[if_neg q,if_neg (fun r:j<j+1∧_=>q r.2),if_neg (fun r:j<j∧_=>q r.2)]
   ·rw[if_neg e]
    have e2:(j<i+1∧endN k p A j=true)↔(j<i∧endN k p A j=true):=⟨fun r=>⟨by omega,r.2⟩,fun r=>⟨by omega,r.2⟩⟩
    simp only[e2]
    by_cases q:endN k p A i=true
    ·rw[if_pos q]
    ·rw[if_neg q]
  have hil:(rk2 k p A i).it.length≤3000:=by
   have h1:=List.length_filter_le (lostN k p A) (List.range A.1.ps.length)
   have h2:=List.length_filter_le (endN k p A) (List.range i)
   rw[List.length_range] at h1 h2
   show(List.filter _ _++List.filter _ _).length≤_
   rw[List.length_append]
   omega
  have hse:=settle_ok A.1.ps.length (rk2 k p A i) h15 (by omega) 0 i hlt 1
  have hno:(rk2 k p A (i+1)).op=(rk2 k p A i).op:=rfl
  refine XK.c ?_ ?_<;>intro h5
  ·have h5:endN k p A i=true:=by rw[hend];exact h5
   rw[if_pos h5] at hni
   have hnr:∀j,(rk2 k p A (i+1)).rk j=((rk2 k p A i).settle i 1).rk j:=fun j=>by
    rw[hnr j,if_pos h5];rfl
   have hni:(rk2 k p A (i+1)).it=((rk2 k p A i).settle i 1).it:=hni
   have hall:rk2 k p A (i+1)=(rk2 k p A i).settle i 1:=by
    have:∀a b:Rk,a.rk=b.rk→a.op=b.op→a.it=b.it→a=b:=fun a b h1 h2 h3=>by cases a;cases b;simp at h1 h2 h3;simp[h1,h2,h3]
    exact this _ _ (funext hnr) rfl hni
   refine XK.w ?_
   refine XK.r ?_
   refine XL.callMA [438,462,873,700] hE rfl rfl rfl rfl trivial (hse) rfl rfl rfl rfl rfl ?_
   refine XL.e ?_
   refine XK.inv ⟨i+1,hlt,?_,by omega⟩
   rw[hall]
   exact Weak.trans (Weak.stamp (k:=700) (t:=0) hN rfl rfl) (Weak.of hN rfl rfl rfl frI frI)
  ·have h5:endN k p A i=false:=by rw[hend];exact h5
   rw[h5,if_neg (by simp),List.append_nil] at hni
   have hnr:∀j,(rk2 k p A (i+1)).rk j=(rk2 k p A i).rk j:=fun j=>by
    rw[hnr j,h5,if_neg (by simp)]
   refine XK.w ?_
   refine XK.inv ⟨i+1,hlt,?_,by omega⟩
   rw[hni,hno,show(rk2 k p A (i+1)).rk=(rk2 k p A i).rk from funext hnr]
   exact(Weak.of hN rfl rfl rfl frI frI)
 have hie:i=A.1.ps.length:=by omega
 subst hie
 clear hi hlt z1 z2 z3
 rw[show rk2 k p A A.1.ps.length=rkM k p A 0 from rfl]
 refine XK.weak (Weak.trans (Weak.frozenC (k:=3) hN rfl rfl rfl) (Weak.of (L:=[(8,.rs 1 A.1.ps.length (fun i=>[.rs 1 (famN (befA A A.1.ps.length) i).1 (famN (befA A A.1.ps.length) i).2])),(6,.ptr 438 0),(9,.ptr 873 0),(3,.rptr (arC p A)),(7,.ptr 583 0),(14,.ptr 7014 0)]) (O:=[(438,.cells 22 [.vec 462 0]),(462,rkO 0 A.1.ps.length (rkM k p A 0).rk),(583,.cells 22 [.vec 608 0]),(608,rkO 0 A.1.ps.length (rkM k p A 0).op),(873,.cells 232 [.vec 700 0,.c (.int .i64 (0))]),(700,itO 0 (rkM k p A 0).it),(7014,.cells 205 [.fn (.func 136) [] [.ptr 438 0,.ptr 873 0]])]) (nx:=9000) (nt:=144) (md:=fun _=>false) hN rfl rfl rfl frI frI)) ?_
 refine XK.w ?_
 have hl0:(rkM k p A 0).it.length≤A.1.ps.length:=inv_len (rk2_all (k:=k) (p:=p) (A:=A)).inv
 have hpo:=pop2_ok (rkM k p A 0).it 0 (by omega) (Nat.zero_le _)
 refine XK.r ?_
 refine XL.callMA [873,700] hE rfl rfl rfl rfl trivial (hpo) rfl rfl rfl rfl rfl ?_
 refine XL.e ?_
 refine XK.loop (ι:=Nat) (fun m=>ST.of [(8,.rs 1 A.1.ps.length (fun i=>[.rs 1 (famN (befA A A.1.ps.length) i).1 (famN (befA A A.1.ps.length) i).2])),(6,.ptr 438 0),(9,.ptr 873 0),(17,.fn (.func 137) [] [.ptr 583 0,.ptr 438 0,.rptr (arC p A),.ptr 7014 0]),(18,.c (.int .i64 (popN (rkM k p A m).it m))),(19,.c (.bool (decide (m<(rkM k p A m).it.length))))] [(438,.cells 22 [.vec 462 0]),(462,rkO 0 A.1.ps.length (rkM k p A m).rk),(583,.cells 22 [.vec 608 0]),(608,rkO 0 A.1.ps.length (rkM k p A m).op),(873,.cells 232 [.vec 700 0,.c (.int .i64 (if m=(rkM k p A m).it.length then m else m+1:Nat))]),(700,itO 0 (rkM k p A m).it),(7014,.cells 205 [.fn (.func 136) [] [.ptr 438 0,.ptr 873 0]])] 10000 144 (fun _=>false))
  (fun m=>m≤(rkM k p A m).it.length∧∀q,q<m→q<(rkM k p A q).it.length) (fun m=>A.1.ps.length -m) 0 ⟨Nat.zero_le _,fun q hq=>absurd hq (Nat.not_lt_zero _)⟩ (Weak.of hN rfl rfl rfl frI frI) fun m hmi=>?_
 obtain⟨hml,hmq⟩:=hmi
 have hlm:(rkM k p A m).it.length≤A.1.ps.length:=by
  obtain⟨E',hE'⟩:=rkM_all (k:=k) (p:=p) (A:=A) m hmq
  exact inv_len hE'.inv
 refine XK.c ?_ ?_<;>intro h6
 ·have h6:m<(rkM k p A m).it.length:=by simpa using h6
  obtain⟨hto,hpart⟩:=rkM_part hmq h6 h15 hrow
  have hsc:=rkM_succ (k:=k) (p:=p) (A:=A) m
  rw[if_pos h6] at hsc
  have hmq':∀q,q<m+1→q<(rkM k p A q).it.length:=fun q hq=>by
   by_cases e:q=m
   ·subst e;exact h6
   ·exact hmq q (by omega)
  have hlm':m+1≤(rkM k p A (m+1)).it.length∧(rkM k p A (m+1)).it.length≤A.1.ps.length:=by
   obtain⟨E',hE'⟩:=rkM_all (k:=k) (p:=p) (A:=A) (m+1) hmq'
   exact⟨hE'.le,inv_len hE'.inv⟩
  have hpp:popN (rkM k p A m).it m=(rkM k p A m).it.getD m 0:=by unfold popN;rw[if_neg (by omega)];rfl
  rw[hpp,if_neg (show ¬m=(rkM k p A m).it.length by omega)]
  have hpo2:=pop2_ok (rkM k p A (m+1)).it (m+1) (by omega) hlm'.1
  generalize hS1:rkM k p A (m+1)=S1 at*
  generalize (rkM k p A m).it.getD m 0=to at*
  generalize hS0:rkM k p A m=S0 at*
  have hfl:=befL_lt to (mv:=mvN A) A.1.ps.length
  have hff:befA A A.1.ps.length to=befL (mvN A) to A.1.ps.length:=rfl
  have hfn:famN (befA A A.1.ps.length) to=((befL (mvN A) to A.1.ps.length).length,fun q=>[.c (.int .i64 ((befL (mvN A) to A.1.ps.length).getD q default:Nat))]):=rfl
  have hbn:(befL (mvN A) to A.1.ps.length).length≤200000:=by
   have:=befA_len A hrow A.1.ps.length (Nat.le_refl _) to
   rw[hff] at this
   omega
  generalize befL (mvN A) to A.1.ps.length=fs at*
  refine XK.w ?_
  rw[show famN (befA A A.1.ps.length) ((to:Nat):Int).toNat=_ from hfn]
  refine XK.loop (ι:=Nat) (fun q=>ST.of [(8,.rs 1 A.1.ps.length (fun i=>[.rs 1 (famN (befA A A.1.ps.length) i).1 (famN (befA A A.1.ps.length) i).2])),(6,.ptr 438 0),(9,.ptr 873 0),(17,.fn (.func 137) [] [.ptr 583 0,.ptr 438 0,.rptr (arC p A),.ptr 7014 0]),(18,.c (.int .i64 to)),(132,rowL (fun j:Nat=>[.c (.int .i64 (j:Nat))]) 1 fs),(133,.c (.int .i64 fs.length)),(134,.c (.int .i64 q))] [(438,.cells 22 [.vec 462 0]),(462,rkO 0 A.1.ps.length (procR (ownN A) to S0 (fs.take q)).rk),(583,.cells 22 [.vec 608 0]),(608,rkO 0 A.1.ps.length (procR (ownN A) to S0 (fs.take q)).op),(873,.cells 232 [.vec 700 0,.c (.int .i64 ((m+1:Nat)))]),(700,itO 0 (procR (ownN A) to S0 (fs.take q)).it),(7014,.cells 205 [.fn (.func 136) [] [.ptr 438 0,.ptr 873 0]])] 12000 144 (fun _=>false))
   (fun q=>q≤fs.length) (fun q=>fs.length-q) 0 (Nat.zero_le _) (Weak.of hN rfl rfl rfl frI frI) fun q hq=>?_
  refine XK.c ?_ ?_<;>intro hql<;>try simp at hql
  ·have hql:q<fs.length:=by omega
   have fx:fs.getD (q:Int).toNat default=fs.getD q default:=rfl
   have hfq:=hfl (fs.getD q default) (by rw[List.getD_eq_getElem?_getD,List.getElem?_eq_getElem hql];exact List.getElem_mem hql)
   have hB:=hpart q hq
   have hnx:procR (ownN A) to S0 (fs.take (q+1))=backR (ownN A) (procR (ownN A) to S0 (fs.take q)) to (fs.getD q default):=by
    rw[List.take_add_one,List.getElem?_eq_getElem hql,procR_app,List.getD_eq_getElem?_getD,List.getElem?_eq_getElem hql]
    rfl
   generalize fs.getD q default=f at*
   generalize hS:procR (ownN A) to S0 (fs.take q)=S at*
   have hbk:=back_ok p A S hB (m+1) to f hto hfq
   rw[show(fun i=>(psAt A.1.ps i).2)=ownN A from rfl,←hnx] at hbk
   generalize hSn:procR (ownN A) to S0 (fs.take (q+1))=Sn at*
   refine XK.w ?_
   rw[fx]
   refine XK.r ?_
   refine XL.callMA [583,608,438,462,873,700,7014] hE rfl rfl rfl rfl trivial (hbk) rfl rfl rfl rfl rfl ?_
   refine XL.e ?_
   refine XK.inv ⟨q+1,hql,?_,by omega⟩
   rw[hSn]
   exact Weak.trans (Weak.stamp (k:=700) (t:=0) hN rfl rfl) (Weak.of hN rfl rfl rfl frI frI)
  ·have hqe:q=fs.length:=by omega
   subst hqe
   rw[List.take_length,←hsc]
   refine XK.w ?_
   refine XK.r ?_
   refine XL.callMA [873,700] hE rfl rfl rfl rfl trivial (hpo2) rfl rfl rfl rfl rfl ?_
   refine XL.e ?_
   refine XK.inv ⟨m+1,⟨by rw[hS1];exact hlm'.1,hmq'⟩,?_,by omega⟩
   rw[hS1]
   exact(Weak.of hN rfl rfl rfl frI frI)
 ·have h6:m=(rkM k p A m).it.length:=by
   have:¬m<(rkM k p A m).it.length:=by simpa using h6
   omega
  rw[rkM_stop (m:=m) (by omega) A.1.ps.length (by omega)]
  refine XK.w ?_
  refine XK.weak (Weak.frozen (k:=462) hN rfl rfl) ?_
  refine XK.w ?_
  refine XK.q ?_
  rfl
end
section
open Go.Eng Go.RowKit Go.Lib
noncomputable def sfB (k:K) (p:Int) (A:ArS) (j:Nat):Bool:=(rkM k p A A.1.ps.length).rk j==-1
noncomputable def sfV (k:K) (p:Int) (A:ArS):AV:=.rs 1 A.1.ps.length (fun j=>[.c (.bool (sfB k p A j))])
theorem rsafe_ok (k:K) (hF:KFacts k) (p:Int) (A:ArS) (h:AW k p A) (hpos:0<A.1.ps.length):Does Tryz.prog 51 [kV k,arV p A] (sfV k p A):=by
 have hr:=ranks_ok k hF p A h hpos
 have h15:=h.max
 unfold sfV sfB
 generalize (rkM k p A A.1.ps.length).rk=rk at*
 generalize hn:A.1.ps.length=n at*
 refine Does.mk (fun d=>Nat.beq d 14) TT_ok Tryz.func51 rfl (by kernel_rfl) Tryz.ntmps51 rfl rfl fun E hT hE hN hR=>?_
 have hm:=mixO hE
 refine XK.r ?_
 refine XL.callKA hE rfl rfl rfl rfl trivial rfl rfl (hr) ?_
 refine XL.e ?_
 refine XK.loop (ι:=Nat) (fun i=>ST.of [(6,.vec 72 0),(15,.rs 1 n (fun j=>[.c (.int .i64 (rk j))])),(16,.c (.int .i64 n)),(17,.c (.int .i64 i))] [(72,.vec 4 1 0 n (fun j=>[.c (.bool (if j<i then rk j==-1 else false))]))] 1000 29 (fun d=>Nat.beq d 14))
  (fun i=>i≤n) (fun i=>n-i) 0 (Nat.zero_le _) (Weak.of hN rfl rfl rfl frI frI) fun i hi=>?_
 refine XK.c ?_ ?_<;>intro hlt<;>try simp at hlt
 ·have fx:rk (i:Int).toNat=rk i:=rfl
  refine XK.w ?_
  refine XK.inv ⟨i+1,hlt,?_,by omega⟩
  refine Weak.of hN rfl rfl rfl frV ⟨⟨rfl,rfl,rfl⟩,rfl,fun j hj=>?_⟩
  show[AV.c (.bool (if j<i+1 then rk j==-1 else false))]=setRowF _ (i:Int).toNat 0 _ j
  rw[show(i:Int).toNat=i from rfl]
  unfold setRowF
  by_cases e:j=i
  ·subst e
   rw[show Nat.beq j j=true by simp,cond_true,if_pos (by omega)]
   rfl
  ·rw[beq_false e,cond_false]
   show _=[AV.c (.bool (if j<i then rk j==-1 else false))]
   by_cases q:j<i
   ·rw[if_pos (by omega),if_pos q]
   ·rw[if_neg (by omega),if_neg q]
 ·have hie:i=n:=by omega
  subst hie
  refine XK.weak (Weak.trans (Weak.of (L:=[(6,.vec 72 0)]) (O:=[(72,.vec 4 1 0 i (fun j=>[.c (.bool (rk j==-1))]))]) (nx:=2000) (nt:=29) (md:=fun _=>false) hN rfl rfl rfl frI ⟨⟨rfl,rfl,rfl⟩,rfl,fun j hj=>by
   show _=[AV.c (.bool (if j<i then rk j==-1 else false))]
   rw[if_pos hj]⟩) (Weak.frozen (k:=72) hN rfl rfl)) ?_
  refine XK.w ?_
  refine XK.q ?_
  rfl
theorem fromR_arena {k:K} (hF:KFacts k) {p:Int} {x:Ps} (hpl:plB k p x=true) (h:(fromR k p x).2=false):AW k p (fromR k p x).1∧ArenaOk k p (fromR k p x).1.1.ps (mvN (fromR k p x).1)∧0<(fromR k p x).1.1.ps.length∧psAt (fromR k p x).1.1.ps 0=x:=by
 obtain⟨n,h1,h2,h3,h4⟩:=(fromR_ok k p x).1 h
 have hp:(0≤p∧p<k.parties)∧validS k x.1=true:=by unfold plB at hpl;simpa using hpl
 have hA:=arT_ok hF.w hp.2 n h3
 rw[h1]
 have hB:=hA.arena h2
 refine⟨⟨hp.1,by rw[hA.len];exact h2,by omega,fun j hj m hm=>hA.lt j (by omega) m hm,fun j hj=>?_,fun j hj=>hA.ok.valid _ (psAt_mem hj)⟩,hB,hA.first.1,hA.first.2⟩
 have:=congrArg List.length (hA.edge j (by omega))
 rw[List.length_map,List.length_map] at this
 rw[this]
 have hna:=hF.na
 by_cases hd:k.days≤(psAt (arT k p x n).1.ps j).1.day
 ·rw[mvS_day hd]
  split<;>simp
 ·rw[mvT_all hd]
  have:=mvT_len k p (psAt (arT k p x n).1.ps j) k.acts.length
  omega
theorem sfB_ok {k:K} (hF:KFacts k) {p:Int} {x:Ps} (hpl:plB k p x=true) (h:(fromR k p x).2=false) {j:Nat} (hj:j<(fromR k p x).1.1.ps.length):sfB k p (fromR k p x).1 j=true↔SafeG k p (psAt (fromR k p x).1.1.ps j):=by
 obtain⟨-,hB,-,-⟩:=fromR_arena hF hpl h
 have hend:∃m,(∀q,q<m→q<(rkM k p (fromR k p x).1 q).it.length)∧m=(rkM k p (fromR k p x).1 m).it.length:=by
  generalize (fromR k p x).1=A at*
  have hbound:∀m,(∀q,q<m→q<(rkM k p A q).it.length)→m≤A.1.ps.length:=fun m hq=>by
   obtain⟨E,hE⟩:=rkM_all m hq
   have:=hE.le
   have:=inv_len hE.inv
   omega
  have key:∀d m,(∀q,q<m→q<(rkM k p A q).it.length)→A.1.ps.length≤m+d→∃m,(∀q,q<m→q<(rkM k p A q).it.length)∧m=(rkM k p A m).it.length:=by
   intro d
   induction d with
   |zero=>
    intro m hq hd
    have h1:=hbound m hq
    obtain⟨E,hE⟩:=rkM_all m hq
    have:=hE.le
    have:=inv_len hE.inv
    exact⟨m,hq,by omega⟩
   |succ d ih=>
    intro m hq hd
    by_cases e:m<(rkM k p A m).it.length
    ·exact ih (m+1) (fun q hqm=>by
      by_cases e2:q=m
      ·subst e2;exact e
      ·exact hq q (by omega)) (by omega)
    ·obtain⟨E,hE⟩:=rkM_all m hq
     have:=hE.le
     exact⟨m,hq,by omega⟩
  exact key A.1.ps.length 0 (fun q hq=>absurd hq (Nat.not_lt_zero _)) (by omega)
 obtain⟨m,hm1,hm2⟩:=hend
 rw[←rkM_end hB hm1 hm2 j hj]
 unfold sfB
 simp
end
section
open Go.Eng Go.RowKit Go.Lib
def keepR (A:ArS) (sf:Nat→Bool) (i:Nat):Int:=if ownN A i=false then 0 else(((A.2.getD i []).find? (fun m=>sf m.2)).map (·.1)).getD 0
theorem find_hit {α:Type} [Inhabited α] {f:α→Bool}:∀{l:List α} {j:Nat},j<l.length→(∀q,q<j→f (l.getD q default)=false)→f (l.getD j default)=true→l.find? f=some (l.getD j default)
 |[],j,h,_,_=>absurd h (Nat.not_lt_zero _)
 |a::l,0,_,_,h=>by
  have h:f a=true:=h
  rw[List.find?_cons,h]
  rfl
 |a::l,j+1,hj,hq,h=>by
  have h0:f a=false:=hq 0 (by omega)
  rw[List.find?_cons,h0]
  exact find_hit (l:=l) (j:=j) (by simpa using hj) (fun q hqj=>hq (q+1) (by omega)) h
theorem find_no {α:Type} [Inhabited α] {f:α→Bool} {l:List α} (h:∀q,q<l.length→f (l.getD q default)=false):l.find? f=none:=by
 rw[List.find?_eq_none]
 intro x hx
 obtain⟨q,hq,rfl⟩:=List.getElem_of_mem hx
 have:=h q hq
 rw[List.getD_eq_getElem?_getD,List.getElem?_eq_getElem hq] at this
 simpa using this
theorem keeping_ok (k:K) (p:Int) (A:ArS) (h:AW k p A) (sf:Nat→Bool) (i:Nat) (hi:i<A.1.ps.length):Does Tryz.prog 149 [arV p A,.rs 1 A.1.ps.length (fun j=>[.c (.bool (sf j))]),.c (.int .i64 i)] (.c (.int .i64 (keepR A sf i))):=by
 have hml:=h.len
 have h15:=h.max
 have hlt:=h.lt i hi
 have hro:=h.row i hi
 have fo:A.1.ps.getD (i:Int).toNat default=psAt A.1.ps i:=rfl
 have fm:A.2.getD (i:Int).toNat default=A.2.getD i []:=rfl
 have hk:keepR A sf i=if(psAt A.1.ps i).2=false then 0 else(((A.2.getD i []).find? (fun m=>sf m.2)).map (·.1)).getD 0:=rfl
 refine Does.mk (fun _=>false) TT_ok Tryz.func149 rfl (by kernel_rfl) Tryz.ntmps149 rfl rfl fun E hT hE hN hR=>?_
 have hm:=mixO hE
 refine XK.c ?_ ?_<;>intro h1
 ·have h1:(psAt A.1.ps i).2=false:=by
   have h1:(!(psAt A.1.ps i).2)=true:=h1
   simpa using h1
  rw[hk,if_pos h1]
  refine XK.w ?_
  refine XK.q ?_
  rfl
 ·have h1:(psAt A.1.ps i).2=true:=by
   have h1:(!(psAt A.1.ps i).2)=false:=h1
   simpa using h1
  rw[hk,if_neg (by rw[h1];simp)]
  clear hk
  refine XK.w ?_
  try rw[fm]
  generalize A.2.getD i []=L at*
  refine XK.loop (ι:=Nat) (fun j=>ST.of [(1,.rs 1 A.1.ps.length (fun j=>[.c (.bool (sf j))])),(20,rowL mvC 2 L),(21,.c (.int .i64 L.length)),(22,.c (.int .i64 j))] [] 1000 34 (fun _=>false))
   (fun j=>j≤L.length∧∀q,q<j→sf (L.getD q default).2=false) (fun j=>L.length-j) 0 ⟨Nat.zero_le _,fun q hq=>absurd hq (Nat.not_lt_zero _)⟩ (Weak.of hN rfl rfl rfl frI frI) fun j hj=>?_
  obtain⟨hj,hq⟩:=hj
  refine XK.c ?_ ?_<;>intro hjl<;>try simp at hjl
  ·have hjl:j<L.length:=by omega
   have fz:L.getD (j:Int).toNat default=L.getD j default:=rfl
   have hm2:=hlt (L.getD j default) (by rw[List.getD_eq_getElem?_getD,List.getElem?_eq_getElem hjl];exact List.getElem_mem hjl)
   have hfind:=find_hit (f:=fun m:Int×Nat=>sf m.2) hjl hq
   generalize hmm:L.getD j default=mm at*
   refine XK.w ?_
   rw[fz]
   refine XK.c ?_ ?_<;>intro h2
   ·have h2:sf mm.2=true:=h2
    rw[hfind h2]
    refine XK.w ?_
    refine XK.q ?_
    rfl
   ·have h2:sf mm.2=false:=h2
    refine XK.w ?_
    refine XK.inv ⟨j+1,⟨hjl,fun q hqj=>?_⟩,(Weak.of hN rfl rfl rfl frI frI),by omega⟩
    by_cases e:q=j
    ·subst e;rw[hmm];exact h2
    ·exact hq q (by omega)
  ·have hje:j=L.length:=by omega
   subst hje
   rw[find_no (f:=fun m:Int×Nat=>sf m.2) hq]
   refine XK.w ?_
   refine XK.q ?_
   rfl
def shC (r:Ps×Int):List AV:=[.c (.int .i64 r.1.1.day),intsV r.1.1.holders,boolsV r.1.1.used,rowL mkC 5 r.1.1.marks,.c (.bool r.1.2),.c (.int .i64 r.2)]
noncomputable def shT (k:K) (p:Int) (A:ArS) (i:Nat):List (Ps×Int):=((List.range i).filter (sfB k p A)).map (fun j=>(psAt A.1.ps j,keepR A (sfB k p A) j))
noncomputable def shV (k:K) (p:Int) (A:ArS):AV:=.agg [.c (.int .i64 p),rowL shC 6 (shT k p A A.1.ps.length)]
def nilSh:AV:=.agg [.c (.int .i64 0),.c (.slice none 0 0)]
noncomputable def shieldV (k:K) (p:Int) (x:Ps):AV:=if(fromR k p x).2=true then .tup [nilSh,.c (.int .i64 3)] else if sfB k p (fromR k p x).1 0=false then .tup [nilSh,.c (.int .i64 13)] else .tup [shV k p (fromR k p x).1,.c (.int .i64 0)]
theorem shT_succ (k:K) (p:Int) (A:ArS) (i:Nat):shT k p A (i+1)=shT k p A i++(if sfB k p A i=true then[(psAt A.1.ps i,keepR A (sfB k p A) i)] else[]):=by
 unfold shT
 rw[List.range_succ,List.filter_append,List.map_append]
 cases h:sfB k p A i<;>simp[h]
theorem shT_len (k:K) (p:Int) (A:ArS) (i:Nat):(shT k p A i).length≤i:=by
 unfold shT
 rw[List.length_map]
 have:=List.length_filter_le (sfB k p A) (List.range i)
 rwa[List.length_range] at this
theorem shield_ok (k:K) (hF:KFacts k) (hv:(kValid k).1=0) (p:Int) (x:Ps) (hpl:plB k p x=true):Does Tryz.prog 103 [kV k,.c (.int .i64 p),psV x] (shieldV k p x):=by
 have hfr:=from_ok k hF hv p x hpl
 have har:=fun h=>fromR_arena hF hpl h
 unfold fromV at hfr
 rw[if_neg (by rw[hpl];simp)] at hfr
 unfold shieldV
 generalize fromR k p x=R at*
 obtain⟨A,st⟩:=R
 dsimp only at*
 refine Does.mk (fun _=>false) TT_ok Tryz.func103 rfl (by kernel_rfl) Tryz.ntmps103 rfl rfl fun E hT hE hN hR=>?_
 have hm:=mixO hE
 cases st with
 |true=>
  rw[if_pos rfl] at hfr ⊢
  refine XK.r ?_
  refine XL.callKA hE rfl rfl rfl rfl trivial rfl rfl (hfr) ?_
  refine XL.e ?_
  refine XK.c ?_ ?_<;>intro h1
  rotate_left
  ·cases h1
  refine XK.w ?_
  refine XK.q ?_
  rfl
 |false=>
  rw[if_neg (by simp)] at hfr ⊢
  obtain⟨hA,-,hpos,-⟩:=har rfl
  have hsf:=rsafe_ok k hF p A hA hpos
  have hkp:=fun i hi=>keeping_ok k p A hA (sfB k p A) i hi
  have h15:=hA.max
  have hsn:=shT_succ k p A
  have hsl:=shT_len k p A
  refine XK.r ?_
  refine XL.callKA hE rfl rfl rfl rfl trivial rfl rfl (hfr) ?_
  refine XL.e ?_
  refine XK.c ?_ ?_<;>intro h1
  ·cases h1
  refine XK.w ?_
  refine XK.r ?_
  refine XL.callKA hE rfl rfl rfl rfl trivial rfl rfl (hsf) ?_
  refine XL.e ?_
  refine XK.c ?_ ?_<;>intro h2
  ·have h2:sfB k p A 0=false:=by
    have h2:(!(sfB k p A 0))=true:=h2
    simpa using h2
   rw[if_pos h2]
   refine XK.w ?_
   refine XK.q ?_
   rfl
  ·have h2:sfB k p A 0=true:=by
    have h2:(!(sfB k p A 0))=false:=h2
    simpa using h2
   rw[if_neg (by rw[h2];simp)]
   unfold shV
   generalize hsf':sfB k p A=sf at*
   generalize hsh:shT k p A=sh at*
   refine XK.w ?_
   refine XK.loop (ι:=Nat) (fun i=>ST.of [(6,.ptr 6 0),(8,.ptr 68 0),(10,.rs 1 A.1.ps.length (fun j=>[.c (.bool (sf j))])),(11,.ptr 311 0),(36,rowL psC 5 A.1.ps),(37,.c (.int .i64 A.1.ps.length)),(38,.c (.int .i64 i))]
     [(6,.cells 199 [.c (.int .i64 0),.c (.slice none 0 0)]),(68,.cells 107 (arC p A)),(311,.cells 199 [.c (.int .i64 p),.vec 700 0]),(700,.vec 203 6 0 (sh i).length (fun j=>shC ((sh i).getD j default)))] 1000 60 (fun _=>false))
    (fun i=>i≤A.1.ps.length) (fun i=>A.1.ps.length -i) 0 (Nat.zero_le _)
    (Weak.trans (Weak.ghostAt (c:=311) (k:=700) (i0:=1) (e:=203) (sz:=6) (f:=fun _=>[]) rfl rfl rfl rfl) (Weak.of hN rfl rfl rfl frI ⟨frI,frI,frI,⟨rfl,rfl,rfl⟩,by rw[←hsh];rfl,fun i hi=>absurd hi (Nat.not_lt_zero _)⟩)) fun i hi=>?_
   refine XK.c ?_ ?_<;>intro hlt<;>try simp at hlt
   ·have hlt:i<A.1.ps.length:=by omega
    have fp:A.1.ps.getD (i:Int).toNat default=psAt A.1.ps i:=rfl
    have fs:sf (i:Int).toNat=sf i:=rfl
    have hk1:=hkp i hlt
    have hsi:=hsn i
    have hsli:=hsl i
    refine XK.w ?_
    try rw[fp]
    generalize psAt A.1.ps i=y at*
    generalize keepR A sf i=kp at*
    generalize hS0:sh i=S0 at*
    generalize hS1:sh (i+1)=S1 at*
    refine XK.c ?_ ?_<;>intro h3
    ·have h3:sf i=true:=h3
     rw[if_pos h3] at hsi
     refine XK.s ?_
     refine XD.callKA hE rfl rfl rfl rfl trivial rfl rfl (hk1) ?_
     refine XD.e ?_
     refine XK.inv ⟨i+1,hlt,?_,by omega⟩
     rw[hS1,hsi]
     exact Weak.trans (Weak.stamp (k:=700) (t:=0) hN rfl rfl) (Weak.of hN rfl rfl rfl frV ⟨frI,frI,frI,⟨rfl,rfl,rfl⟩,by simp,row_snocD shC S0 (y,kp) _ rfl⟩)
    ·have h3:sf i=false:=h3
     rw[h3,if_neg (by simp),List.append_nil] at hsi
     refine XK.w ?_
     refine XK.inv ⟨i+1,hlt,?_,by omega⟩
     rw[hS1,hsi]
     exact(Weak.of hN rfl rfl rfl frI frI)
   ·have hie:i=A.1.ps.length:=by omega
    subst hie
    refine XK.weak (Weak.frozen (k:=700) hN rfl rfl) ?_
    refine XK.w ?_
    refine XK.q ?_
    rfl
end
section
open Go.Eng Go.RowKit Go.Lib
theorem numbers_ok (x:Cl):Does Tryz.prog 121 [.agg (clC x)] (intsV (numsC x)):=by
 unfold numsC
 refine Does.mk (fun _=>false) TT_ok Tryz.func121 rfl (by kernel_rfl) Tryz.ntmps121 rfl rfl fun E hT hE hN hR=>?_
 have hm:=mixO hE
 refine XK.c ?_ ?_<;>intro h1<;>try simp at h1
 ·rw[if_pos h1]
  refine XK.w ?_
  refine XK.l ?_
  exact⟨rfl,rfl,fun i hi=>by cases Nat.lt_one_iff.1 hi;rfl⟩
 ·rw[if_neg h1]
  refine XK.w ?_
  refine XK.l ?_
  exact⟨rfl,rfl,fun i hi=>by rcases i with _|_|_|i<;>first|rfl|(exfalso;omega)⟩
theorem kind3_ok (a:Act):Does Tryz.prog 120 [.agg (actC a)] (.c (.bool (a.kind !=1))):=by
 refine Does.mk (fun _=>false) TT_ok Tryz.func120 rfl (by kernel_rfl) Tryz.ntmps120 rfl rfl fun E hT hE hN hR=>?_
 have hm:=mixO hE
 refine XK.w ?_
 refine XK.q ?_
 rfl
def idxA (l:List Act) (f:Act→Bool):Int:=match(List.range l.length).find? (fun i=>f (l.getD i default)) with
 |some i=>(i:Int)
 |none=>-1
theorem idxA_some {l:List Act} {f:Act→Bool} {i:Nat} (h:i<l.length) (h1:f (l.getD i default)=true) (h2:∀j,j<i→f (l.getD j default)=false):idxA l f=(i:Int):=by
 have hg:∀j,j<l.length→(List.range l.length).getD j default=j:=fun j hj=>by
  rw[List.getD_eq_getElem?_getD,List.getElem?_range hj];rfl
 unfold idxA
 rw[find_hit (l:=List.range l.length) (j:=i) (by simpa using h) (fun q hq=>by rw[hg q (by omega)];exact h2 q hq) (by rw[hg i h];exact h1),hg i h]
theorem idxA_none {l:List Act} {f:Act→Bool} (h2:∀j,j<l.length→f (l.getD j default)=false):idxA l f=-1:=by
 unfold idxA
 rw[List.find?_eq_none.2 fun x hx=>by rw[h2 x (List.mem_range.1 hx)];simp]
theorem idxA_ge {l:List Act} {f:Act→Bool}:decide (0≤idxA l f)=l.any f:=by
 by_cases h:∃i,i<l.length∧f (l.getD i default)=true
 ·have hge:0≤idxA l f:=by
   unfold idxA
   split
   ·omega
   ·rename_i hn
    obtain⟨i,hi,hf⟩:=h
    rw[List.find?_eq_none] at hn
    exact absurd hf (hn i (List.mem_range.2 hi))
  obtain⟨i,hi,hf⟩:=h
  rw[decide_eq_true hge,Eq.comm,List.any_eq_true]
  exact⟨l.getD i default,by rw[List.getD_eq_getElem?_getD,List.getElem?_eq_getElem hi];exact List.getElem_mem hi,hf⟩
 ·have hn:∀j,j<l.length→f (l.getD j default)=false:=fun j hj=>by
   cases hq:f (l.getD j default) with
   |false=>rfl
   |true=>exact absurd ⟨j,hj,hq⟩ h
  rw[idxA_none hn,decide_eq_false (by omega),Eq.comm,List.any_eq_false]
  intro x hx
  obtain⟨j,hj,rfl⟩:=List.getElem_of_mem hx
  have:=hn j hj
  rw[List.getD_eq_getElem?_getD,List.getElem?_eq_getElem hj] at this
  simpa using this
theorem idx3_ok (l:List Act) (hl:l.length≤1000000):Does Tryz.prog 157 [actsV l,.fn (.func 120) [] []] (.c (.int .i64 (idxA l (fun a=>a.kind !=1)))):=by
 refine Does.mk (fun _=>false) TT_ok Tryz.func157 rfl (by kernel_rfl) Tryz.ntmps157 rfl rfl fun E hT hE hN hR=>?_
 have hm:=mixO hE
 refine XK.w ?_
 refine XK.loop (ι:=Nat) (fun i=>ST.of [(0,actsV l),(1,.fn (.func 120) [] []),(7,.c (.int .i64 l.length)),(8,.c (.int .i64 i))] [] 1000 19 (fun _=>false))
  (fun i=>i≤l.length∧∀q,q<i→((l.getD q default).kind !=1)=false) (fun i=>l.length-i) 0 ⟨Nat.zero_le _,fun q hq=>absurd hq (Nat.not_lt_zero _)⟩ (Weak.of hN rfl rfl rfl frI frI) fun i hi=>?_
 obtain⟨hi,hq⟩:=hi
 refine XK.c ?_ ?_<;>intro hlt<;>try simp at hlt
 ·have hlt:i<l.length:=by omega
  have fx:l.getD (i:Int).toNat default=l.getD i default:=rfl
  have hk:=kind3_ok (l.getD i default)
  refine XK.r ?_
  try rw[fx]
  refine XL.callLA hE rfl rfl rfl rfl trivial rfl (hk) rfl ?_
  refine XL.e ?_
  refine XK.c ?_ ?_<;>intro h1
  ·refine XK.w ?_
   refine XK.q ?_
   rw[idxA_some hlt h1 hq]
  ·refine XK.w ?_
   refine XK.inv ⟨i+1,⟨hlt,fun j hj=>?_⟩,(Weak.of hN rfl rfl rfl frI frI),by omega⟩
   by_cases h:j=i
   ·subst h;exact h1
   ·exact hq j (by omega)
 ·refine XK.w ?_
  refine XK.q ?_
  rw[idxA_none fun j hj=>hq j (by omega)]
theorem whole_ok (l:List Act) (hl:l.length≤1000000):Does Tryz.prog 119 [actsV l,.fn (.func 120) [] []] (.c (.bool (l.any (fun a=>a.kind !=1)))):=by
 refine Does.mk (fun _=>false) TT_ok Tryz.func119 rfl (by kernel_rfl) Tryz.ntmps119 rfl rfl fun E hT hE hN hR=>?_
 have hm:=mixO hE
 refine XK.r ?_
 refine XL.callKA hE rfl rfl rfl rfl trivial rfl rfl (idx3_ok l hl) ?_
 refine XL.e ?_
 refine XK.q ?_
 refine cB ?_
 exact idxA_ge
end
end Go.Proofs.YtgpkkllbejgmlaaGreatDoor
