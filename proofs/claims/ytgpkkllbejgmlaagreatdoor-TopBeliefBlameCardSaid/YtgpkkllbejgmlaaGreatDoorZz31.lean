import Derived.Test.YtgpkkllbejgmlaaGreatDoorZz14
import Derived.Test.YtgpkkllbejgmlaaGreatDoorZz23
import Derived.Test.YtgpkkllbejgmlaaGreatDoorZz30
set_option linter.unusedSimpArgs false
set_option linter.unusedVariables false
set_option maxRecDepth 10000
namespace Go.Proofs.YtgpkkllbejgmlaaGreatDoor
section
open Go.Eng Go.RowKit Go.Lib Go.Sort
theorem wK_ok (z:Int) (hz:inK .i64 z) (L:List UInt8) (hL:L.length≤900000):
  DoesM Tryz.prog 147 [.c (.int .i64 z),.ptr 0 0] [.cells 210 [.vec 1 0],bO 0 L] (.tup []) [.cells 210 [.vec 1 3],bO 3 (L++nb z)]:=by
 have hi:=itoa_short hz
 simp only[inK] at hz
 have hc:=appendInt_ok z hz.1 hz.2 L.length (by omega) (fun i=>byC (L.getD i 0))
 have hlen:(L++nb z).length=L.length+(itoa z).length+1:=by simp[nb];omega
 unfold bO
 rw[hlen]
 refine DoesM.mk (fun _=>false) 100 TT_ok Tryz.func147 rfl (by kernel_rfl) Tryz.ntmps147 rfl rfl rfl fun E hT hE hN hR=>?_
 have hm:=mixO hE
 refine XK.r ?_
 refine XL.callMA [1] hE rfl rfl rfl rfl trivial (hc) rfl rfl rfl rfl rfl ?_
 refine XL.e ?_
 refine XK.t [0,1] ?_ ?_
 ·(repeat' (first|exact rfl|exact AvIs.refl _|exact trivial|exact fun _ _=>rfl|exact fun _ _=>⟨rfl,AvIs.refl _⟩|exact cI (by omega)|exact(by_num L z _ rfl)|refine⟨?_,?_⟩))
 ·exact frI
theorem b1_in (b:Bool):inK .i64 (b1 b):=by cases b<;>simp[b1,inK]
theorem flagK_ok (b:Bool) (L:List UInt8) (hL:L.length≤900000):
  DoesM Tryz.prog 148 [.c (.bool b),.ptr 0 0] [.cells 95 [.fn (.func 147) [] [.ptr 1 0]],.cells 210 [.vec 2 0],bO 0 L] (.tup []) [.cells 95 [.fn (.func 147) [] [.ptr 1 0]],.cells 210 [.vec 2 3],bO 3 (L++nb (b1 b))]:=by
 refine DoesM.mk (fun _=>false) 100 TT_ok Tryz.func148 rfl (by kernel_rfl) Tryz.ntmps148 rfl rfl rfl fun E hT hE hN hR=>?_
 have hm:=mixO hE
 refine XK.c ?_ ?_<;>intro h1<;>try simp at h1
 ·subst h1
  refine XK.r ?_
  refine XL.callMA [1,2] hE rfl rfl rfl rfl trivial (wK_ok 1 (b1_in true) L hL) rfl rfl rfl rfl rfl ?_
  refine XL.e ?_
  refine XK.t [0,1,2] ?_ ?_
  ·exact frI
  ·exact frI
 ·subst h1
  refine XK.r ?_
  refine XL.callMA [1,2] hE rfl rfl rfl rfl trivial (wK_ok 0 (b1_in false) L hL) rfl rfl rfl rfl rfl ?_
  refine XL.e ?_
  refine XK.t [0,1,2] ?_ ?_
  ·exact frI
  ·exact frI
theorem key_ok (x:Ps) (hs:TxOk x.1):Does Tryz.prog 102 [psV x] (.c (.string ⟨(kyT x).toArray⟩)):=by
 have hrow:∀L:List UInt8,bytesS L.length (fun i=>byC (L.getD i 0))=⟨L.toArray⟩:=fun L=>bytesS_row L
 obtain⟨s,own⟩:=x
 have hw:=hs.day
 have n1:=hs.nh
 have n2:=hs.nu
 have n3:=hs.nm
 have hh:=hs.hold
 have hmk:=hs.mark
 clear hs
 dsimp only at hw n1 n2 n3 hh hmk
 have l0:(nb (b1 own)++nb s.day).length≤50:=by have:=nb_len hw;have:=nb_len (b1_in own);rw[List.length_append];omega
 have l1:∀i,(cutL nb (s.holders.take i)).length≤2200:=fun i=>by have:=takeI (l:=s.holders) (b:=22) (fun i hi=>nb_len (hh i hi)) i;omega
 have l2:∀i,(cutL (fun b=>nb (b1 b)) (s.used.take i)).length≤2200:=fun i=>by
  refine Nat.le_trans (cutL_len (fun b=>nb (b1 b)) 22 _ fun b _=>?_) (by rw[List.length_take];omega)
  exact nb_len (b1_in b)
 have l3:∀i,(cutL mkK (s.marks.take i)).length≤44000:=fun i=>by
  refine Nat.le_trans (cutL_len mkK 110 _ fun m hm=>?_) (by rw[List.length_take];omega)
  obtain⟨j,hj,rfl⟩:=List.getElem_of_mem (List.mem_of_mem_take hm)
  have:=hmk j hj
  rw[List.getD_eq_getElem?_getD,List.getElem?_eq_getElem hj] at this
  obtain⟨a,b,c,d⟩:=this
  have:=nb_len a
  have:=nb_len b
  have:=nb_len c
  have:=nb_len d
  simp only[Option.getD_some] at*
  have:=nb_len (b1_in (s.marks[j]).paused)
  simp only[mkK,List.length_append];omega
 have hP1:nb (b1 own)++nb s.day=nb (b1 own)++nb s.day:=rfl
 refine Does.mk (fun _=>false) TT_ok Tryz.func102 rfl (by kernel_rfl) Tryz.ntmps102 rfl rfl fun E hT hE hN hR=>?_
 have hm:=mixO hE
 refine XK.w ?_
 refine XK.weak (Weak.trans (Weak.ghostC (c:=81) (k:=900) (e:=5) (sz:=1) (f:=fun _=>[]) rfl rfl rfl) (Weak.of (L:=[(1,.ptr 1 0),(3,.ptr 81 0),(4,.ptr 160 0),(5,.fn (.func 148) [] [.ptr 160 0])]) (O:=[(1,.cells 50 (psC (s,own))),(81,.cells 210 [.vec 900 0]),(160,.cells 95 [.fn (.func 147) [] [.ptr 81 0]]),(900,bO 0 ([]))]) (nx:=1000) (nt:=78) (md:=fun _=>false) hN rfl rfl rfl frI (by(repeat' (first|exact rfl|exact AvIs.refl _|exact trivial|exact fun _ _=>rfl|exact fun _ _=>⟨rfl,AvIs.refl _⟩|exact cI (by omega)|exact(fun j hj=>absurd hj (Nat.not_lt_zero _))|refine⟨?_,?_⟩))))) ?_
 refine XK.r ?_
 refine XL.callMA [160,81,900] hE rfl rfl rfl rfl trivial (flagK_ok own [] (by simp)) rfl rfl rfl rfl rfl ?_
 refine XL.e ?_
 refine XK.weak (Weak.trans (Weak.stamp (k:=900) (t:=0) hN rfl rfl) (Weak.of (L:=[(1,.ptr 1 0),(3,.ptr 81 0),(4,.ptr 160 0),(5,.fn (.func 148) [] [.ptr 160 0])]) (O:=[(1,.cells 50 (psC (s,own))),(81,.cells 210 [.vec 900 0]),(160,.cells 95 [.fn (.func 147) [] [.ptr 81 0]]),(900,bO 0 ([]++nb (b1 own)))]) (nx:=1000) (nt:=78) (md:=fun _=>false) hN rfl rfl rfl frV frI)) ?_
 refine XK.r ?_
 refine XL.callMA [81,900] hE rfl rfl rfl rfl trivial (wK_ok s.day hw ([]++nb (b1 own)) (by have:=nb_len (b1_in own);simp;omega)) rfl rfl rfl rfl rfl ?_
 refine XL.e ?_
 refine XK.w ?_
 have tk:∀i,i<(s.holders).length→[]++nb (b1 own)++nb s.day++cutL nb (s.holders.take (i+1))=[]++nb (b1 own)++nb s.day++cutL nb (s.holders.take i)++(nb (s.holders.getD i default)):=fun i h=>by rw[cutL_succ _ _ _ h];simp only[List.append_assoc]
 refine XK.loop (ι:=Nat) (fun i=>ST.of [(1,.ptr 1 0),(3,.ptr 81 0),(4,.ptr 160 0),(5,.fn (.func 148) [] [.ptr 160 0]),(25,intsV s.holders),(26,.c (.int .i64 (s.holders.length:Nat))),(27,.c (.int .i64 i))] [(1,.cells 50 (psC (s,own))),(81,.cells 210 [.vec 900 0]),(160,.cells 95 [.fn (.func 147) [] [.ptr 81 0]]),(900,bO 0 ([]++nb (b1 own)++nb s.day++cutL nb (s.holders.take i)))] 1000 78 (fun _=>false))
  (fun i=>i≤s.holders.length) (fun i=>s.holders.length-i) 0 (Nat.zero_le _) (by rw[List.take_zero,show cutL nb []=[] from rfl,List.append_nil];exact Weak.trans (Weak.stamp (k:=900) (t:=0) hN rfl rfl) (Weak.of hN rfl rfl rfl frV frI)) fun i hi=>?_
 refine XK.c ?_ ?_<;>intro hlt<;>try simp at hlt
 ·have fx:s.holders.getD (i:Int).toNat default=s.holders.getD i default:=rfl
  have hL:([]++nb (b1 own)++nb s.day++cutL nb (s.holders.take i)).length≤800000:=by have:=l1 s.holders.length;have:=l1 i;have:=l2 i;have:=l2 s.used.length;have:=l3 i;simp only[List.length_append,List.length_nil,List.take_length] at*;omega
  have hz:=hh i hlt
  have tki:=tk i hlt
  (try dsimp only at tki)
  refine XK.w ?_
  rw[fx]
  generalize s.holders.getD i default=z at*
  refine XK.r ?_
  refine XL.callMA [81,900] hE rfl rfl rfl rfl trivial (wK_ok z hz ([]++nb (b1 own)++nb s.day++cutL nb (s.holders.take i)) (by omega)) rfl rfl rfl rfl rfl ?_
  refine XL.e ?_
  refine XK.inv ⟨i+1,hlt,?_,by omega⟩
  rw[tki]
  exact Weak.trans (Weak.stamp (k:=900) (t:=0) hN rfl rfl) (Weak.of hN rfl rfl rfl frV frI)
 have hie:i=s.holders.length:=by omega
 subst hie
 rw[List.take_length]
 clear hlt hi tk
 refine XK.w ?_
 have tk:∀i,i<(s.used).length→[]++nb (b1 own)++nb s.day++cutL nb s.holders++cutL (fun b=>nb (b1 b)) (s.used.take (i+1))=[]++nb (b1 own)++nb s.day++cutL nb s.holders++cutL (fun b=>nb (b1 b)) (s.used.take i)++((fun b=>nb (b1 b)) (s.used.getD i default)):=fun i h=>by rw[cutL_succ _ _ _ h];simp only[List.append_assoc]
 refine XK.loop (ι:=Nat) (fun i=>ST.of [(1,.ptr 1 0),(3,.ptr 81 0),(4,.ptr 160 0),(5,.fn (.func 148) [] [.ptr 160 0]),(37,boolsV s.used),(38,.c (.int .i64 (s.used.length:Nat))),(39,.c (.int .i64 i))] [(1,.cells 50 (psC (s,own))),(81,.cells 210 [.vec 900 0]),(160,.cells 95 [.fn (.func 147) [] [.ptr 81 0]]),(900,bO 0 ([]++nb (b1 own)++nb s.day++cutL nb s.holders++cutL (fun b=>nb (b1 b)) (s.used.take i)))] 1000 78 (fun _=>false))
  (fun i=>i≤s.used.length) (fun i=>s.used.length-i) 0 (Nat.zero_le _) (by rw[List.take_zero,show cutL (fun b=>nb (b1 b)) []=[] from rfl,List.append_nil];exact Weak.of hN rfl rfl rfl frV frI) fun i hi=>?_
 refine XK.c ?_ ?_<;>intro hlt<;>try simp at hlt
 ·have fx:s.used.getD (i:Int).toNat default=s.used.getD i default:=rfl
  have hL:([]++nb (b1 own)++nb s.day++cutL nb s.holders++cutL (fun b=>nb (b1 b)) (s.used.take i)).length≤800000:=by have:=l1 s.holders.length;have:=l1 i;have:=l2 i;have:=l2 s.used.length;have:=l3 i;simp only[List.length_append,List.length_nil,List.take_length] at*;omega
  have tki:=tk i hlt
  (try dsimp only at tki)
  refine XK.w ?_
  rw[fx]
  generalize s.used.getD i default=z at*
  refine XK.r ?_
  refine XL.callMA [160,81,900] hE rfl rfl rfl rfl trivial (flagK_ok z ([]++nb (b1 own)++nb s.day++cutL nb s.holders++cutL (fun b=>nb (b1 b)) (s.used.take i)) (by omega)) rfl rfl rfl rfl rfl ?_
  refine XL.e ?_
  refine XK.inv ⟨i+1,hlt,?_,by omega⟩
  rw[tki]
  exact Weak.trans (Weak.stamp (k:=900) (t:=0) hN rfl rfl) (Weak.of hN rfl rfl rfl frV frI)
 have hie:i=s.used.length:=by omega
 subst hie
 rw[List.take_length]
 clear hlt hi tk
 refine XK.w ?_
 have tk:∀i,i<(s.marks).length→[]++nb (b1 own)++nb s.day++cutL nb s.holders++cutL (fun b=>nb (b1 b)) s.used++cutL mkK (s.marks.take (i+1))=[]++nb (b1 own)++nb s.day++cutL nb s.holders++cutL (fun b=>nb (b1 b)) s.used++cutL mkK (s.marks.take i)++(mkK (s.marks.getD i default)):=fun i h=>by rw[cutL_succ _ _ _ h];simp only[List.append_assoc]
 refine XK.loop (ι:=Nat) (fun i=>ST.of [(1,.ptr 1 0),(3,.ptr 81 0),(4,.ptr 160 0),(5,.fn (.func 148) [] [.ptr 160 0]),(49,rowL mkC 5 s.marks),(50,.c (.int .i64 (s.marks.length:Nat))),(51,.c (.int .i64 i))] [(1,.cells 50 (psC (s,own))),(81,.cells 210 [.vec 900 0]),(160,.cells 95 [.fn (.func 147) [] [.ptr 81 0]]),(900,bO 0 ([]++nb (b1 own)++nb s.day++cutL nb s.holders++cutL (fun b=>nb (b1 b)) s.used++cutL mkK (s.marks.take i)))] 1000 78 (fun _=>false))
  (fun i=>i≤s.marks.length) (fun i=>s.marks.length-i) 0 (Nat.zero_le _) (by rw[List.take_zero,show cutL mkK []=[] from rfl,List.append_nil];exact Weak.of hN rfl rfl rfl frV frI) fun i hi=>?_
 refine XK.c ?_ ?_<;>intro hlt<;>try simp at hlt
 ·have fx:s.marks.getD (i:Int).toNat default=s.marks.getD i default:=rfl
  have hL:([]++nb (b1 own)++nb s.day++cutL nb s.holders++cutL (fun b=>nb (b1 b)) s.used++cutL mkK (s.marks.take i)).length≤800000:=by have:=l1 s.holders.length;have:=l1 i;have:=l2 i;have:=l2 s.used.length;have:=l3 i;simp only[List.length_append,List.length_nil,List.take_length] at*;omega
  have hz:=hmk i hlt
  have tki:=tk i hlt
  (try dsimp only at tki)
  refine XK.w ?_
  rw[fx]
  generalize s.marks.getD i default=m at*
  obtain⟨w1,w2,w3,w4⟩:=hz
  have q1:=nb_len w1
  have q2:=nb_len w2
  have q3:=nb_len w3
  have q4:=nb_len w4
  refine XK.r ?_
  refine XL.callMA [81,900] hE rfl rfl rfl rfl trivial (wK_ok m.status w1 ([]++nb (b1 own)++nb s.day++cutL nb s.holders++cutL (fun b=>nb (b1 b)) s.used++cutL mkK (s.marks.take i)) (by simp only[List.length_append] at*;omega)) rfl rfl rfl rfl rfl ?_
  refine XL.e ?_
  refine XK.weak (Weak.trans (Weak.stamp (k:=900) (t:=0) hN rfl rfl) (Weak.of (L:=[(1,.ptr 1 0),(3,.ptr 81 0),(4,.ptr 160 0),(5,.fn (.func 148) [] [.ptr 160 0]),(49,rowL mkC 5 s.marks),(50,.c (.int .i64 (s.marks.length:Nat))),(51,.c (.int .i64 i)),(11,.ptr 1089 0)]) (O:=[(1,.cells 50 (psC (s,own))),(81,.cells 210 [.vec 900 0]),(160,.cells 95 [.fn (.func 147) [] [.ptr 81 0]]),(900,bO 0 ((([]++nb (b1 own)++nb s.day++cutL nb s.holders++cutL (fun b=>nb (b1 b)) s.used++cutL mkK (s.marks.take i))++nb m.status))),(1089,.cells 56 (mkC m))]) (nx:=3000) (nt:=78) (md:=fun _=>false) hN rfl rfl rfl frI frI)) ?_
  refine XK.r ?_
  refine XL.callMA [81,900] hE rfl rfl rfl rfl trivial (wK_ok m.left w2 (([]++nb (b1 own)++nb s.day++cutL nb s.holders++cutL (fun b=>nb (b1 b)) s.used++cutL mkK (s.marks.take i))++nb m.status) (by simp only[List.length_append] at*;omega)) rfl rfl rfl rfl rfl ?_
  refine XL.e ?_
  refine XK.weak (Weak.trans (Weak.stamp (k:=900) (t:=0) hN rfl rfl) (Weak.of (L:=[(1,.ptr 1 0),(3,.ptr 81 0),(4,.ptr 160 0),(5,.fn (.func 148) [] [.ptr 160 0]),(49,rowL mkC 5 s.marks),(50,.c (.int .i64 (s.marks.length:Nat))),(51,.c (.int .i64 i)),(11,.ptr 1089 0)]) (O:=[(1,.cells 50 (psC (s,own))),(81,.cells 210 [.vec 900 0]),(160,.cells 95 [.fn (.func 147) [] [.ptr 81 0]]),(900,bO 0 (((([]++nb (b1 own)++nb s.day++cutL nb s.holders++cutL (fun b=>nb (b1 b)) s.used++cutL mkK (s.marks.take i))++nb m.status)++nb m.left))),(1089,.cells 56 (mkC m))]) (nx:=3000) (nt:=78) (md:=fun _=>false) hN rfl rfl rfl frI frI)) ?_
  refine XK.r ?_
  refine XL.callMA [81,900] hE rfl rfl rfl rfl trivial (wK_ok m.got w3 ((([]++nb (b1 own)++nb s.day++cutL nb s.holders++cutL (fun b=>nb (b1 b)) s.used++cutL mkK (s.marks.take i))++nb m.status)++nb m.left) (by simp only[List.length_append] at*;omega)) rfl rfl rfl rfl rfl ?_
  refine XL.e ?_
  refine XK.weak (Weak.trans (Weak.stamp (k:=900) (t:=0) hN rfl rfl) (Weak.of (L:=[(1,.ptr 1 0),(3,.ptr 81 0),(4,.ptr 160 0),(5,.fn (.func 148) [] [.ptr 160 0]),(49,rowL mkC 5 s.marks),(50,.c (.int .i64 (s.marks.length:Nat))),(51,.c (.int .i64 i)),(11,.ptr 1089 0)]) (O:=[(1,.cells 50 (psC (s,own))),(81,.cells 210 [.vec 900 0]),(160,.cells 95 [.fn (.func 147) [] [.ptr 81 0]]),(900,bO 0 ((((([]++nb (b1 own)++nb s.day++cutL nb s.holders++cutL (fun b=>nb (b1 b)) s.used++cutL mkK (s.marks.take i))++nb m.status)++nb m.left)++nb m.got))),(1089,.cells 56 (mkC m))]) (nx:=3000) (nt:=78) (md:=fun _=>false) hN rfl rfl rfl frI frI)) ?_
  refine XK.r ?_
  refine XL.callMA [81,900] hE rfl rfl rfl rfl trivial (wK_ok m.bearer w4 (((([]++nb (b1 own)++nb s.day++cutL nb s.holders++cutL (fun b=>nb (b1 b)) s.used++cutL mkK (s.marks.take i))++nb m.status)++nb m.left)++nb m.got) (by simp only[List.length_append] at*;omega)) rfl rfl rfl rfl rfl ?_
  refine XL.e ?_
  refine XK.weak (Weak.trans (Weak.stamp (k:=900) (t:=0) hN rfl rfl) (Weak.of (L:=[(1,.ptr 1 0),(3,.ptr 81 0),(4,.ptr 160 0),(5,.fn (.func 148) [] [.ptr 160 0]),(49,rowL mkC 5 s.marks),(50,.c (.int .i64 (s.marks.length:Nat))),(51,.c (.int .i64 i)),(11,.ptr 1089 0)]) (O:=[(1,.cells 50 (psC (s,own))),(81,.cells 210 [.vec 900 0]),(160,.cells 95 [.fn (.func 147) [] [.ptr 81 0]]),(900,bO 0 (((((([]++nb (b1 own)++nb s.day++cutL nb s.holders++cutL (fun b=>nb (b1 b)) s.used++cutL mkK (s.marks.take i))++nb m.status)++nb m.left)++nb m.got)++nb m.bearer))),(1089,.cells 56 (mkC m))]) (nx:=3000) (nt:=78) (md:=fun _=>false) hN rfl rfl rfl frI frI)) ?_
  refine XK.r ?_
  refine XL.callMA [160,81,900] hE rfl rfl rfl rfl trivial (flagK_ok m.paused ((((([]++nb (b1 own)++nb s.day++cutL nb s.holders++cutL (fun b=>nb (b1 b)) s.used++cutL mkK (s.marks.take i))++nb m.status)++nb m.left)++nb m.got)++nb m.bearer) (by simp only[List.length_append] at*;omega)) rfl rfl rfl rfl rfl ?_
  refine XL.e ?_
  refine XK.inv ⟨i+1,hlt,?_,by omega⟩
  rw[tki,show mkK m=nb m.status++(nb m.left++(nb m.got++(nb m.bearer++nb (b1 m.paused)))) from rfl]
  simp only[←List.append_assoc]
  exact Weak.trans (Weak.stamp (k:=900) (t:=0) hN rfl rfl) (Weak.of hN rfl rfl rfl frV frI)
 have hie:i=s.marks.length:=by omega
 subst hie
 rw[List.take_length]
 clear hlt hi tk
 refine XK.weak (Weak.frozen (k:=900) hN rfl rfl) ?_
 refine XK.w ?_
 refine XK.q ?_
 rw[hrow]
 unfold kyT
 simp only[List.nil_append,List.append_assoc]
end
section
open Go.Eng Go.RowKit Go.Lib
theorem known_ok (k:K) (hk:kW k) (hv:(kValid k).1=0) (p:Int) (hp:0≤p∧p<k.parties):Does Tryz.prog 28 [kV k,.c (.int .i64 p)] (.c (.bool true)):=by
 have hkv:=kValid_ok k hk
 rw[hv] at hkv
 refine Does.mk (fun _=>false) TT_ok Tryz.func28 rfl (by kernel_rfl) Tryz.ntmps28 rfl rfl fun E hT hE hN hR=>?_
 have hm:=mixO hE
 refine XK.r ?_
 refine XL.callKA hE rfl rfl rfl rfl trivial rfl rfl (hkv) ?_
 refine XL.e ?_
 refine XK.q ?_
 refine cB ?_
 simp[hp.1,hp.2]
noncomputable def stgC (k:K) (l:List Int):List AV:=[.rs 7 (l.length+1) (fun _=>kC k),.rs 4 (l.length+1) (fun i=>stC (runE k l i).1),intsV l,.rs 1 (l.length+1) (fun _=>[.c (.int .i64 0)])]
theorem position_ok (k:K) (l:List Int) (i:Nat) (hi:i≤l.length) (hl:l.length≤100000):Does Tryz.prog 98 [.agg (stgC k l),.c (.int .i64 i)] (psV ((runE k l i).1,true)):=by
 have fx:(runE k l (i:Int).toNat).1=(runE k l i).1:=rfl
 unfold stgC
 refine Does.mk (fun _=>false) TT_ok Tryz.func98 rfl (by kernel_rfl) Tryz.ntmps98 rfl rfl fun E hT hE hN hR=>?_
 have hm:=mixO hE
 refine XK.w ?_
 refine XK.q ?_
 rfl
theorem decs_ok (k:K) (l:List Int) (p:Int):Does Tryz.prog 54 [.agg (stgC k l),.c (.int .i64 p)] (.fn (.func 97) [] [.rptr (stgC k l),.rptr [.c (.int .i64 p)]]):=by
 unfold stgC
 refine Does.mk (fun _=>false) TT_ok Tryz.func54 rfl (by kernel_rfl) Tryz.ntmps54 rfl rfl fun E hT hE hN hR=>?_
 have hm:=mixO hE
 refine XK.w ?_
 refine XK.weak (Weak.trans (Weak.frozenC (k:=2) hN rfl rfl rfl) (Weak.frozenC (k:=3) hN rfl rfl rfl)) ?_
 refine XK.q ?_
 rfl
end
section
open Go.Eng Go.RowKit Go.Lib
def plcT (x:Ps):List UInt8:=48::58::kyT x
theorem kyT_len (x:Ps) (hs:TxOk x.1):(kyT x).length≤100000:=by
 obtain⟨s,own⟩:=x
 have hw:=hs.day
 have n1:=hs.nh
 have n2:=hs.nu
 have n3:=hs.nm
 have hh:=hs.hold
 have hmk:=hs.mark
 clear hs
 dsimp only at hw n1 n2 n3 hh hmk
 have l0:(nb (b1 own)).length≤22:=nb_len (b1_in own)
 have l00:(nb s.day).length≤22:=nb_len hw
 have l1:(cutL nb s.holders).length≤2200:=by
  have:=takeI (l:=s.holders) (b:=22) (fun i hi=>nb_len (hh i hi)) s.holders.length
  rw[List.take_length] at this
  omega
 have l2:(cutL (fun b=>nb (b1 b)) s.used).length≤2200:=by
  refine Nat.le_trans (cutL_len (fun b=>nb (b1 b)) 22 _ fun b _=>?_) (by omega)
  exact nb_len (b1_in b)
 have l3:(cutL mkK s.marks).length≤44000:=by
  refine Nat.le_trans (cutL_len mkK 110 _ fun m hm=>?_) (by omega)
  obtain⟨j,hj,rfl⟩:=List.getElem_of_mem hm
  have:=hmk j hj
  rw[List.getD_eq_getElem?_getD,List.getElem?_eq_getElem hj] at this
  obtain⟨a,b,c,d⟩:=this
  have:=nb_len a
  have:=nb_len b
  have:=nb_len c
  have:=nb_len d
  simp only[Option.getD_some] at*
  have:=nb_len (b1_in (s.marks[j]).paused)
  simp only[mkK,List.length_append];omega
 unfold kyT
 simp only[List.length_append]
 omega
theorem place_ok (x:Ps) (hs:TxOk x.1):Does Tryz.prog 100 [psV x,.rptr [.c (.int .i64 0)]] (.c (.string ⟨(plcT x).toArray⟩)):=by
 have hi:=itoa_ok 0 (by omega) (by omega)
 rw[show itoaS 0=.string ⟨#[48]⟩ by kernel_rfl] at hi
 have hk:=key_ok x hs
 have hsz:(⟨(kyT x).toArray⟩:ByteArray).size≤100000:=kyT_len x hs
 have he:(⟨#[48]⟩++⟨#[58]⟩++⟨(kyT x).toArray⟩:ByteArray)=⟨(plcT x).toArray⟩:=by
  unfold plcT
  apply ByteArray.ext
  simp[ByteArray.data_append]
 rw[←he]
 generalize (⟨(kyT x).toArray⟩:ByteArray)=kb at*
 have h2:(⟨#[48]⟩++⟨#[58]⟩:ByteArray).size=2:=rfl
 refine Does.mk (fun _=>false) TT_ok Tryz.func100 rfl (by kernel_rfl) Tryz.ntmps100 rfl rfl fun E hT hE hN hR=>?_
 have hm:=mixO hE
 refine XK.s ?_
 refine XD.callLA hE rfl rfl rfl rfl trivial rfl (hi) rfl ?_
 refine XD.g ?_
 refine XD.callLA hE rfl rfl rfl rfl trivial rfl (hk) rfl ?_
 refine XD.e ?_
 refine XK.q ?_
 rfl
def jV (m:List UInt8→Option Bool):Value→Option Bool
 |.string b=>m b.data.toList
 |_=>none
def jsO (m:List UInt8→Option Bool):Ob:=.mapb .str (.bool false) (fun v=>(jV m v).isSome) (fun v=>.c (.bool ((jV m v).getD false)))
def lV (m:Int→Option Bool):Value→Option Bool
 |.int _ z=>m z
 |_=>none
def lgO (m:Int→Option Bool):Ob:=.mapb (.int .i64) (.bool false) (fun v=>(lV m v).isSome) (fun v=>.c (.bool ((lV m v).getD false)))
def shMO:Ob:=.mapb .str ty199.zv (fun _=>false) (fun _=>zeroAV ty199)
def dmMO:Ob:=.mapb .str ty340.zv (fun _=>false) (fun _=>zeroAV ty340)
def jgO (p:Int) (m:List UInt8→Option Bool) (lg:Int→Option Bool):List Ob:=[.cells 122 [.c (.int .i64 p),.mp 1,.mp 2,.mp 3,.mp 4,.c (.bool false),.c (.int .i64 0),.c (.int .i64 0),.c (.int .i64 0)],jsO m,lgO lg,shMO,dmMO]
theorem newJudge_ok (p:Int):DoesM Tryz.prog 30 [.c (.int .i64 p)] [] (.ptr 0 0) (jgO p (fun _=>none) (fun _=>none)):=by
 refine DoesM.mk (fun _=>false) 100 TT_ok Tryz.func30 rfl (by kernel_rfl) Tryz.ntmps30 rfl rfl rfl fun E hT hE hN hR=>?_
 have hm:=mixO hE
 refine XK.w ?_
 refine XK.t [119,114,115,116,117] ?_ ?_
 ·exact⟨frI,⟨rfl,rfl,fun v hv=>⟨by cases v<;>rfl,by cases v<;>exact AvIs.refl _⟩⟩,⟨rfl,rfl,fun v hv=>⟨by cases v<;>rfl,by cases v<;>exact AvIs.refl _⟩⟩,frI,frI⟩
 ·exact frI
end
section
open Go.Eng Go.RowKit Go.Lib
abbrev Mm:=List UInt8→Option Bool
abbrev Lg:=Int→Option Bool
def setM (m:Mm) (t:List UInt8) (b:Bool):Mm:=fun u=>if u=t then some b else m u
def setG (g:Lg) (z:Int) (b:Bool):Lg:=fun u=>if u=z then some b else g u
theorem js_enc (m:Mm) (t:List UInt8):jV m (.string ⟨t.toArray⟩)=m t:=by
 unfold jV
 simp
theorem js_put (m:Mm) (t:List UInt8) (b:Bool) (v:Value) (hv:KK.str.has v=true):(jV (setM m t b) v).isSome=(keyEq v (.string ⟨t.toArray⟩)||(jV m v).isSome)∧AvIs (bif keyEq v (.string ⟨t.toArray⟩) then .c (.bool b) else .c (.bool ((jV m v).getD false))) (.c (.bool ((jV (setM m t b) v).getD false))):=by
 cases v<;>simp[KK.has,LK.has] at hv
 rename_i bb
 have e:Value.string bb=encStr bb.data.toList:=by simp[encStr]
 rw[show(Value.string ⟨t.toArray⟩)=encStr t from rfl,e,keyEq_enc]
 rw[show jV m (encStr bb.data.toList)=m bb.data.toList from js_enc m _,show jV (setM m t b) (encStr bb.data.toList)=setM m t b bb.data.toList from js_enc _ _]
 unfold setM
 by_cases h:bb.data.toList=t
 ·rw[if_pos h,show(bb.data.toList==t)=true by simp[h]]
  exact⟨rfl,AvIs.refl _⟩
 ·rw[if_neg h,show(bb.data.toList==t)=false by simp[h]]
  exact⟨by simp,AvIs.refl _⟩
theorem lg_put (g:Lg) (a:Int) (b:Bool) (v:Value) (hv:(KK.int .i64).has v=true):(lV (setG g a b) v).isSome=(keyEq v (.int .i64 a)||(lV g v).isSome)∧
  AvIs (bif keyEq v (.int .i64 a) then .c (.bool b) else .c (.bool ((lV g v).getD false))) (.c (.bool ((lV (setG g a b) v).getD false))):=by
 cases v<;>simp[KK.has,LK.has] at hv
 rename_i kk z
 subst hv
 have hk:keyEq (.int .i64 z) (.int .i64 a)=(z==a):=by simp[keyEq,cellSame]
 rw[hk]
 show(if z=a then some b else g z).isSome=_∧AvIs _ (.c (.bool ((if z=a then some b else g z).getD false)))
 by_cases e:z=a
 ·rw[if_pos e,show(z==a)=true by simp[e]]
  exact⟨rfl,AvIs.refl _⟩
 ·rw[if_neg e,show(z==a)=false by simp[e]]
  exact⟨by simp[lV],AvIs.refl _⟩
noncomputable def csR (k:K) (p:Int) (x:Ps) (P:List (List Nat)) (m:Mm) (g:Lg):(Bool×Int)×(Mm×Lg):=((csB k p x P,(slT k p x P P.length).1),(if(slT k p x P P.length).1=0 then setM m (plcT x) (csB k p x P) else m,g))
noncomputable def rowsM (L:List (Ps×Int)) (m:Mm):Mm:=L.foldl (fun m r=>setM m (plcT r.1) true) m
noncomputable def isR (k:K) (p:Int) (x:Ps) (P:List (List Nat)) (m:Mm) (g:Lg):(Bool×Int)×(Mm×Lg):=match m (plcT x) with
 |some b=>((b,0),(m,g))
 |none=>if(g 0).getD false=true then csR k p x P m g else if(fromR k p x).2=true then csR k p x P m (setG g 0 true) else
   ((sfB k p (fromR k p x).1 0,0),(setM (rowsM (if sfB k p (fromR k p x).1 0=true then shT k p (fromR k p x).1 (fromR k p x).1.1.ps.length else[]) m) (plcT x) (sfB k p (fromR k p x).1 0),g))
theorem rowsM_succ {L:List (Ps×Int)} {m:Mm} {j:Nat} (h:j<L.length):rowsM (L.take (j+1)) m=setM (rowsM (L.take j) m) (plcT (L.getD j default).1) true:=foldl_takeS (fun m (r:Ps×Int)=>setM m (plcT r.1) true) L m h
theorem isSafe_ok (k:K) (hF:KFacts k) (hv:(kValid k).1=0) (p:Int) (l:List Int) (hl:l.length≤100000) (i:Nat) (hi:i≤l.length) (x:Ps) (hpl:plB k p x=true) (m:Mm) (g:Lg):
  DoesM Tryz.prog 55 [.ptr 0 0,.agg (stgC k l),.c (.int .i64 i),psV x] (jgO p m g) (.tup [.c (.bool (isR k p x (compsL k) m g).1.1),.c (.int .i64 (isR k p x (compsL k) m g).1.2)]) (jgO p (isR k p x (compsL k) m g).2.1 (isR k p x (compsL k) m g).2.2):=by
 have hvx:validS k x.1=true:=by unfold plB at hpl;simp at hpl;exact hpl.2
 have hpc:=place_ok x (txOk_of hF.w hvx)
 have hsh:=shield_ok k hF hv p x hpl
 have hcs:=csafe_ok k hF p x hpl (compsL k) (slOk hF hv hpl) (comp_ok k hF hv)
 have hje:=js_enc m (plcT x)
 unfold isR
 unfold stgC
 refine DoesM.mk (fun _=>false) 100 TT_ok Tryz.func55 rfl (by kernel_rfl) Tryz.ntmps55 rfl rfl rfl fun E hT hE hN hR=>?_
 have hm:=mixO hE
 refine XK.w ?_
 refine XK.weak (Weak.trans (Weak.frozenC (k:=233) hN rfl rfl rfl) (Weak.of (L:=[(0,.ptr 0 0),(7,.ptr 107 0),(10,.ptr 232 0),(11,.rptr [.c (.int .i64 0)]),(12,.fn (.func 100) [] [.rptr [.c (.int .i64 0)]])])
  (O:=(107,.cells 50 (psC x))::(232,.cells 27 (kC k))::[(0,.cells 122 [.c (.int .i64 p),.mp 1,.mp 2,.mp 3,.mp 4,.c (.bool false),.c (.int .i64 0),.c (.int .i64 0),.c (.int .i64 0)]),(1,jsO m),(2,lgO g),(3,shMO),(4,dmMO)]) (nx:=1000) (nt:=122) (md:=fun _=>false) hN rfl rfl rfl frI frI)) ?_
 refine XK.s ?_
 refine XD.callLA hE rfl rfl rfl rfl trivial rfl (hpc) rfl ?_
 refine XD.e ?_
 refine XK.c ?_ ?_<;>intro h1
 ·obtain⟨b,hb⟩:∃b,m (plcT x)=some b:=by
   cases hq:m (plcT x) with
   |some b=>exact⟨b,rfl⟩
   |none=>
    have h1:(jV m (.string ⟨(plcT x).toArray⟩)).isSome=true:=h1
    rw[hje,hq] at h1;cases h1
  rw[hb]
  refine XK.w ?_
  refine XK.t [0,1,2,3,4] ?_ ?_
  ·exact frI
  ·have e1:(jV m (.string ⟨(plcT x).toArray⟩)).getD false=b:=by rw[hje,hb];rfl
   show AvIs (.tup [.c (.bool ((jV m (.string ⟨(plcT x).toArray⟩)).getD false)),.c (.int .i64 0)]) (.tup [.c (.bool b),.c (.int .i64 0)])
   rw[e1]
   exact AvIs.refl _
 ·have hb:m (plcT x)=none:=by
   cases hq:m (plcT x) with
   |none=>rfl
   |some b=>
    have h1:(jV m (.string ⟨(plcT x).toArray⟩)).isSome=false:=h1
    rw[hje,hq] at h1;cases h1
  rw[hb]
  dsimp only
  refine XK.c ?_ ?_<;>intro h3
  rotate_left
  ·have h3:(g 0).getD false=true:=by
    have h3:(!((g 0).getD false))=false:=h3
    simpa using h3
   rw[if_pos h3]
   refine XK.s ?_
   refine XD.callLA hE rfl rfl rfl rfl trivial rfl (hcs) rfl ?_
   refine XD.e ?_
   unfold csR
   dsimp only
   generalize csB k p x (compsL k)=cb at*
   generalize (slT k p x (compsL k) (compsL k).length).1=ce at*
   refine XK.c ?_ ?_<;>intro h8<;>try simp at h8
   ·rw[if_pos h8]
    refine XK.s ?_
    refine XD.callLA hE rfl rfl rfl rfl trivial rfl (hpc) rfl ?_
    refine XD.e ?_
    refine XK.w ?_
    refine XK.t [0,1,2,3,4] ?_ ?_
    ·exact⟨frI,⟨rfl,rfl,fun v hv=>js_put m (plcT x) cb v hv⟩,frI,frI,frI⟩
    ·exact frI
   ·rw[if_neg h8]
    refine XK.w ?_
    refine XK.t [0,1,2,3,4] ?_ ?_
    ·exact frI
    ·exact frI
  have h3:(g 0).getD false=false:=by
   have h3:(!((g 0).getD false))=true:=h3
   simpa using h3
  rw[if_neg (by rw[h3];simp)]
  unfold shieldV at hsh
  have hsl:=shT_len k p (fromR k p x).1 (fromR k p x).1.1.ps.length
  have har:=fun h=>fromR_arena hF hpl h
  generalize fromR k p x=R at*
  obtain⟨A,st⟩:=R
  dsimp only at*
  cases st with
  |true=>
   rw[if_pos rfl] at hsh ⊢
   refine XK.s ?_
   refine XD.callKA hE rfl rfl rfl rfl trivial rfl rfl (hsh) ?_
   refine XD.e ?_
   refine XK.loop (ι:=Nat) (fun j=>ST.of [(0,.ptr 0 0),(7,.ptr 107 0),(10,.ptr 232 0),(11,.rptr [.c (.int .i64 0)]),(12,.fn (.func 100) [] [.rptr [.c (.int .i64 0)]]),(16,.c (.int .i64 3)),(63,.c (.slice none 0 0)),(64,.c (.int .i64 (0:Nat))),(65,.c (.int .i64 j))]
     ((107,.cells 50 (psC x))::(232,.cells 27 (kC k))::[(0,.cells 122 [.c (.int .i64 p),.mp 1,.mp 2,.mp 3,.mp 4,.c (.bool false),.c (.int .i64 0),.c (.int .i64 0),.c (.int .i64 0)]),(1,jsO m),(2,lgO g),(3,shMO),(4,dmMO)]) 5000 122 (fun _=>false))
    (fun j=>j≤(0:Nat)) (fun j=>(0:Nat)-j) 0 (Nat.zero_le _) (Weak.of hN rfl rfl rfl frI frI) fun j hj=>?_
   refine XK.c ?_ ?_<;>intro hjl<;>try simp at hjl
   ·omega
   refine XK.c ?_ ?_<;>intro h5
   ·cases h5
   refine XK.w ?_
   refine XK.weak (Weak.of (L:=[(0,.ptr 0 0),(7,.ptr 107 0),(10,.ptr 232 0),(11,.rptr [.c (.int .i64 0)]),(12,.fn (.func 100) [] [.rptr [.c (.int .i64 0)]])])
    (O:=(107,.cells 50 (psC x))::(232,.cells 27 (kC k))::[(0,.cells 122 [.c (.int .i64 p),.mp 1,.mp 2,.mp 3,.mp 4,.c (.bool false),.c (.int .i64 0),.c (.int .i64 0),.c (.int .i64 0)]),(1,jsO m),(2,lgO (setG g 0 true)),(3,shMO),(4,dmMO)]) (nx:=8000) (nt:=122) (md:=fun _=>false) hN rfl rfl rfl frI ⟨frI,frI,frI,frI,⟨rfl,rfl,fun v hv=>lg_put g 0 true v hv⟩,frI,frI⟩) ?_
   refine XK.s ?_
   refine XD.callLA hE rfl rfl rfl rfl trivial rfl (hcs) rfl ?_
   refine XD.e ?_
   unfold csR
   dsimp only
   generalize csB k p x (compsL k)=cb at*
   generalize (slT k p x (compsL k) (compsL k).length).1=ce at*
   refine XK.c ?_ ?_<;>intro h8<;>try simp at h8
   ·rw[if_pos h8]
    refine XK.s ?_
    refine XD.callLA hE rfl rfl rfl rfl trivial rfl (hpc) rfl ?_
    refine XD.e ?_
    refine XK.w ?_
    refine XK.t [0,1,2,3,4] ?_ ?_
    ·exact⟨frI,⟨rfl,rfl,fun v hv=>js_put m (plcT x) cb v hv⟩,frI,frI,frI⟩
    ·exact frI
   ·rw[if_neg h8]
    refine XK.w ?_
    refine XK.t [0,1,2,3,4] ?_ ?_
    ·exact frI
    ·exact frI
  |false=>
   rw[if_neg (by simp)] at hsh ⊢
   obtain⟨hA,-,-,-⟩:=har rfl
   have h15:=hA.max
   cases hsf:sfB k p A 0 with
   |false=>
    rw[if_pos hsf] at hsh
    rw[if_neg (by simp)]
    show XK E _ (RetM E TT _ _ (jgO p (setM m (plcT x) false) g)) _
    refine XK.s ?_
    refine XD.callKA hE rfl rfl rfl rfl trivial rfl rfl (hsh) ?_
    refine XD.e ?_
    refine XK.loop (ι:=Nat) (fun j=>ST.of [(0,.ptr 0 0),(7,.ptr 107 0),(10,.ptr 232 0),(11,.rptr [.c (.int .i64 0)]),(12,.fn (.func 100) [] [.rptr [.c (.int .i64 0)]]),(16,.c (.int .i64 13)),(63,.c (.slice none 0 0)),(64,.c (.int .i64 (0:Nat))),(65,.c (.int .i64 j))]
      ((107,.cells 50 (psC x))::(232,.cells 27 (kC k))::[(0,.cells 122 [.c (.int .i64 p),.mp 1,.mp 2,.mp 3,.mp 4,.c (.bool false),.c (.int .i64 0),.c (.int .i64 0),.c (.int .i64 0)]),(1,jsO m),(2,lgO g),(3,shMO),(4,dmMO)]) 5000 122 (fun _=>false))
     (fun j=>j≤(0:Nat)) (fun j=>(0:Nat)-j) 0 (Nat.zero_le _) (Weak.of hN rfl rfl rfl frI frI) fun j hj=>?_
    refine XK.c ?_ ?_<;>intro hjl<;>try simp at hjl
    ·omega
    refine XK.c ?_ ?_<;>intro h5
    rotate_left
    ·cases h5
    refine XK.s ?_
    refine XD.callLA hE rfl rfl rfl rfl trivial rfl (hpc) rfl ?_
    refine XD.e ?_
    refine XK.w ?_
    refine XK.t [0,1,2,3,4] ?_ ?_
    ·exact⟨frI,⟨rfl,rfl,fun v hv=>js_put m (plcT x) false v hv⟩,frI,frI,frI⟩
    ·exact frI
   |true=>
    rw[if_neg (by rw[hsf];simp)] at hsh
    rw[if_pos rfl]
    have hrow:∀r∈shT k p A A.1.ps.length,TxOk r.1.1:=fun r hr=>by
     unfold shT at hr
     obtain⟨j,hj,rfl⟩:=List.mem_map.1 hr
     exact txOk_of hF.w (hA.valid j (List.mem_range.1 (List.mem_filter.1 hj).1))
    show XK E _ (RetM E TT _ _ (jgO p (setM (rowsM (shT k p A A.1.ps.length) m) (plcT x) true) g)) _
    unfold shV at hsh
    generalize shT k p A A.1.ps.length=Lr at*
    refine XK.s ?_
    refine XD.callKA hE rfl rfl rfl rfl trivial rfl rfl (hsh) ?_
    refine XD.e ?_
    refine XK.loop (ι:=Nat) (fun j=>ST.of [(0,.ptr 0 0),(7,.ptr 107 0),(10,.ptr 232 0),(11,.rptr [.c (.int .i64 0)]),(12,.fn (.func 100) [] [.rptr [.c (.int .i64 0)]]),(16,.c (.int .i64 0)),(63,rowL shC 6 Lr),(64,.c (.int .i64 Lr.length)),(65,.c (.int .i64 j))]
      ((107,.cells 50 (psC x))::(232,.cells 27 (kC k))::[(0,.cells 122 [.c (.int .i64 p),.mp 1,.mp 2,.mp 3,.mp 4,.c (.bool false),.c (.int .i64 0),.c (.int .i64 0),.c (.int .i64 0)]),(1,jsO (rowsM (Lr.take j) m)),(2,lgO g),(3,shMO),(4,dmMO)]) 5000 122 (fun _=>false))
     (fun j=>j≤Lr.length) (fun j=>Lr.length-j) 0 (Nat.zero_le _) (Weak.of hN rfl rfl rfl frI frI) fun j hj=>?_
    refine XK.c ?_ ?_<;>intro hjl<;>try simp at hjl
    ·have hjl:j<Lr.length:=by omega
     have fz:Lr.getD (j:Int).toNat default=Lr.getD j default:=rfl
     have hpr:=place_ok (Lr.getD j default).1 (hrow _ (by rw[List.getD_eq_getElem?_getD,List.getElem?_eq_getElem hjl];exact List.getElem_mem hjl))
     have hsu:=rowsM_succ (m:=m) hjl
     generalize hM1:rowsM (Lr.take (j+1)) m=M1 at*
     generalize rowsM (Lr.take j) m=M0 at*
     refine XK.w ?_
     rw[fz]
     generalize Lr.getD j default=r at*
     refine XK.s ?_
     refine XD.callLA hE rfl rfl rfl rfl trivial rfl (hpr) rfl ?_
     refine XD.e ?_
     refine XK.inv ⟨j+1,hjl,?_,by omega⟩
     rw[hM1,hsu]
     exact Weak.of hN rfl rfl rfl frV ⟨frI,frI,frI,⟨rfl,rfl,fun v hv=>js_put M0 (plcT r.1) true v hv⟩,frI,frI,frI⟩
    have hje:j=Lr.length:=by omega
    subst hje
    rw[List.take_length]
    generalize rowsM Lr m=M0 at*
    refine XK.c ?_ ?_<;>intro h5
    rotate_left
    ·cases h5
    refine XK.s ?_
    refine XD.callLA hE rfl rfl rfl rfl trivial rfl (hpc) rfl ?_
    refine XD.e ?_
    refine XK.w ?_
    refine XK.t [0,1,2,3,4] ?_ ?_
    ·exact⟨frI,⟨rfl,rfl,fun v hv=>js_put M0 (plcT x) true v hv⟩,frI,frI,frI⟩
    ·exact frI
end
section
open Go.Eng Go.RowKit Go.Lib
theorem plcT_inj {k:K} {x y:Ps} (hx:validS k x.1=true) (hy:validS k y.1=true) (h:plcT x=plcT y):x=y:=by
 unfold plcT at h
 exact kyT_inj (valid_len hx hy) (by simpa using h)
def MemOk (k:K) (Good:Ps→Prop) (m:Mm):Prop:=∀y b,validS k y.1=true→m (plcT y)=some b→(b=true↔Good y)
theorem MemOk.set {k:K} {Good:Ps→Prop} {m:Mm} (h:MemOk k Good m) {x:Ps} (hx:validS k x.1=true) {b:Bool} (hb:b=true↔Good x):MemOk k Good (setM m (plcT x) b):=by
 intro y c hy hc
 unfold setM at hc
 by_cases e:plcT y=plcT x
 ·rw[if_pos e] at hc
  injection hc with hc
  subst hc
  rw[plcT_inj hy hx e]
  exact hb
 ·rw[if_neg e] at hc
  exact h y c hy hc
theorem MemOk.rows {k:K} {Good:Ps→Prop}:∀(L:List (Ps×Int)) {m:Mm},MemOk k Good m→(∀r∈L,validS k r.1.1=true∧Good r.1)→MemOk k Good (rowsM L m)
 |[],_,h,_=>h
 |r::L,m,h,hr=>MemOk.rows L (h.set (hr r List.mem_cons_self).1 (b:=true) ⟨fun _=>(hr r List.mem_cons_self).2,fun _=>rfl⟩) fun q hq=>hr q (List.mem_cons_of_mem _ hq)
theorem isR_whole {k:K} (hF:KFacts k) {p:Int} {x:Ps} (hpl:plB k p x=true) (hf:(fromR k p x).2=false) {P:List (List Nat)} {m:Mm} {g:Lg} (hm:MemOk k (SafeG k p) m) (hg:(g 0).getD false=false):
  (isR k p x P m g).1.2=0∧((isR k p x P m g).1.1=true↔SafeG k p x)∧MemOk k (SafeG k p) (isR k p x P m g).2.1∧(isR k p x P m g).2.2=g:=by
 have hvx:validS k x.1=true:=by unfold plB at hpl;simp at hpl;exact hpl.2
 obtain⟨hA,hB,hpos,hps⟩:=fromR_arena hF hpl hf
 have hsf:∀j,j<(fromR k p x).1.1.ps.length→_:=fun j hj=>sfB_ok hF hpl hf hj
 have h0:=hsf 0 hpos
 rw[hps] at h0
 unfold isR
 cases hq:m (plcT x) with
 |some b=>exact⟨rfl,hm x b hvx hq,hm,rfl⟩
 |none=>
  dsimp only
  rw[if_neg (by rw[hg];simp),if_neg (by rw[hf];simp)]
  refine⟨rfl,h0,MemOk.set (MemOk.rows _ hm fun r hr=>?_) hvx h0,rfl⟩
  split at hr
  ·unfold shT at hr
   obtain⟨j,hj,rfl⟩:=List.mem_map.1 hr
   obtain⟨h1,h2⟩:=List.mem_filter.1 hj
   have h1:=List.mem_range.1 h1
   exact⟨hA.valid j h1,(hsf j h1).1 h2⟩
  ·cases hr
theorem isR_parts {k:K} {p:Int} {x:Ps} {P:List (List Nat)} (hP:SlOk k p x P) (hvx:validS k x.1=true) {m:Mm} {g:Lg} (hm:MemOk k (fun y=>∀cl∈P,SafeG (partK k cl) p (restS cl y.1,y.2)) m) (hg:(g 0).getD false=true∨(fromR k p x).2=true∧m (plcT x)=none):
  ((isR k p x P m g).1.2=0∨(isR k p x P m g).1.2=3)∧((isR k p x P m g).1.2=0→((isR k p x P m g).1.1=true↔∀cl∈P,SafeG (partK k cl) p (restS cl x.1,x.2)))∧MemOk k (fun y=>∀cl∈P,SafeG (partK k cl) p (restS cl y.1,y.2)) (isR k p x P m g).2.1∧((isR k p x P m g).2.2 0).getD false=true:=by
 have hcs:∀g':Lg,(g' 0).getD false=true→((csR k p x P m g').1.2=0∨(csR k p x P m g').1.2=3)∧((csR k p x P m g').1.2=0→((csR k p x P m g').1.1=true↔∀cl∈P,SafeG (partK k cl) p (restS cl x.1,x.2)))∧MemOk k (fun y=>∀cl∈P,SafeG (partK k cl) p (restS cl y.1,y.2)) (csR k p x P m g').2.1∧((csR k p x P m g').2.2 0).getD false=true:=fun g' hg'=>by
  refine⟨slT_err P.length,fun h=>csB_ok hP h,?_,hg'⟩
  show MemOk k _ (if(slT k p x P P.length).1=0 then setM m (plcT x) (csB k p x P) else m)
  split
  ·rename_i h
   exact hm.set hvx (csB_ok hP h)
  ·exact hm
 unfold isR
 rcases hg with hg|⟨hg1,hg2⟩
 ·cases hq:m (plcT x) with
  |some b=>exact⟨.inl rfl,fun _=>hm x b hvx hq,hm,hg⟩
  |none=>
   dsimp only
   rw[if_pos hg]
   exact hcs g hg
 ·rw[hg2]
  dsimp only
  split
  ·rename_i h
   exact hcs g h
  ·exact hcs (setG g 0 true) (by unfold setG;rw[if_pos rfl];rfl)
end
section
open Go.Eng Go.RowKit Go.Lib
theorem selfI (l:List Int) (hl:l.length≤1000000):Does Tryz.prog 92 [intsV l,intsV l] (.c (.bool true)):=by
 refine Does.mk (fun _=>false) TT_ok Tryz.func92 rfl (by kernel_rfl) Tryz.ntmps92 rfl rfl fun E hT hE hN hR=>?_
 have hm:=mixO hE
 refine XK.c ?_ ?_<;>intro h1
 ·exfalso
  simp at h1
 ·refine XK.w ?_
  refine XK.loop (ι:=Nat) (fun i=>ST.of [(0,intsV l),(1,intsV l),(12,.c (.int .i64 l.length)),(13,.c (.int .i64 i))] [] 1000 26 (fun _=>false))
   (fun i=>i≤l.length) (fun i=>l.length-i) 0 (Nat.zero_le _) (Weak.of hN rfl rfl rfl frI frI) fun i hi=>?_
  refine XK.c ?_ ?_<;>intro hlt<;>try simp at hlt
  ·refine XK.w ?_
   refine XK.c ?_ ?_<;>intro hb
   ·exfalso
    simp at hb
   ·refine XK.w ?_
    exact XK.inv ⟨i+1,hlt,(Weak.of hN rfl rfl rfl frI frI),by omega⟩
  ·refine XK.w ?_
   refine XK.q ?_
   rfl
theorem selfU (l:List U) (hl:l.length≤1000000):Does Tryz.prog 93 [unitsV l,unitsV l] (.c (.bool true)):=by
 refine Does.mk (fun _=>false) TT_ok Tryz.func93 rfl (by kernel_rfl) Tryz.ntmps93 rfl rfl fun E hT hE hN hR=>?_
 have hm:=mixO hE
 refine XK.c ?_ ?_<;>intro h1
 ·exfalso
  simp at h1
 ·refine XK.w ?_
  refine XK.loop (ι:=Nat) (fun i=>ST.of [(0,unitsV l),(1,unitsV l),(12,.c (.int .i64 l.length)),(13,.c (.int .i64 i))] [] 1000 26 (fun _=>false))
   (fun i=>i≤l.length) (fun i=>l.length-i) 0 (Nat.zero_le _) (Weak.of hN rfl rfl rfl frI frI) fun i hi=>?_
  refine XK.c ?_ ?_<;>intro hlt<;>try simp at hlt
  ·refine XK.w ?_
   refine XK.c ?_ ?_<;>intro hb
   ·exfalso
    simp at hb
    generalize (l[i]?.getD default).name=nn at hb
    rw[show(nn==nn)=true from by cases nn with|mk dd=>exact(show(dd==dd)=true from beq_self_eq_true dd)] at hb
    cases hb
   ·refine XK.w ?_
    exact XK.inv ⟨i+1,hlt,(Weak.of hN rfl rfl rfl frI frI),by omega⟩
  ·refine XK.w ?_
   refine XK.q ?_
   rfl
theorem selfA (l:List Act) (hl:l.length≤1000000):Does Tryz.prog 94 [actsV l,actsV l] (.c (.bool true)):=by
 refine Does.mk (fun _=>false) TT_ok Tryz.func94 rfl (by kernel_rfl) Tryz.ntmps94 rfl rfl fun E hT hE hN hR=>?_
 have hm:=mixO hE
 refine XK.c ?_ ?_<;>intro h1
 ·exfalso
  simp at h1
 ·refine XK.w ?_
  refine XK.loop (ι:=Nat) (fun i=>ST.of [(0,actsV l),(1,actsV l),(12,.c (.int .i64 l.length)),(13,.c (.int .i64 i))] [] 1000 26 (fun _=>false))
   (fun i=>i≤l.length) (fun i=>l.length-i) 0 (Nat.zero_le _) (Weak.of hN rfl rfl rfl frI frI) fun i hi=>?_
  refine XK.c ?_ ?_<;>intro hlt<;>try simp at hlt
  ·refine XK.w ?_
   refine XK.c ?_ ?_<;>intro hb
   ·exfalso
    simp at hb
   ·refine XK.w ?_
    exact XK.inv ⟨i+1,hlt,(Weak.of hN rfl rfl rfl frI frI),by omega⟩
  ·refine XK.w ?_
   refine XK.q ?_
   rfl
theorem selfC (l:List Cnd) (hl:l.length≤1000000):Does Tryz.prog 145 [cndsV l,cndsV l] (.c (.bool true)):=by
 refine Does.mk (fun _=>false) TT_ok Tryz.func145 rfl (by kernel_rfl) Tryz.ntmps145 rfl rfl fun E hT hE hN hR=>?_
 have hm:=mixO hE
 refine XK.c ?_ ?_<;>intro h1
 ·exfalso
  simp at h1
 ·refine XK.w ?_
  refine XK.loop (ι:=Nat) (fun i=>ST.of [(0,cndsV l),(1,cndsV l),(12,.c (.int .i64 l.length)),(13,.c (.int .i64 i))] [] 1000 26 (fun _=>false))
   (fun i=>i≤l.length) (fun i=>l.length-i) 0 (Nat.zero_le _) (Weak.of hN rfl rfl rfl frI frI) fun i hi=>?_
  refine XK.c ?_ ?_<;>intro hlt<;>try simp at hlt
  ·refine XK.w ?_
   refine XK.c ?_ ?_<;>intro hb
   ·exfalso
    simp at hb
   ·refine XK.w ?_
    exact XK.inv ⟨i+1,hlt,(Weak.of hN rfl rfl rfl frI frI),by omega⟩
  ·refine XK.w ?_
   refine XK.q ?_
   rfl
theorem selfCl (c:Cl) (hl:c.start.length≤1000000):Does Tryz.prog 96 [.agg (clC c),.agg (clC c)] (.c (.bool true)):=by
 have h:=selfC c.start hl
 refine Does.mk (fun _=>false) TT_ok Tryz.func96 rfl (by kernel_rfl) Tryz.ntmps96 rfl rfl fun E hT hE hN hR=>?_
 have hm:=mixO hE
 refine XK.r ?_
 refine XL.callGA hE rfl rfl rfl rfl rfl rfl rfl rfl (h) rfl ?_
 refine XL.e ?_
 refine XK.q ?_
 refine cB ?_
 simp
theorem selfCls (l:List Cl) (hl:l.length≤1000000) (hs:∀i,i<l.length→(l.getD i default).start.length≤1000000):Does Tryz.prog 95 [clsV l,clsV l,.fn (.func 96) [] []] (.c (.bool true)):=by
 refine Does.mk (fun _=>false) TT_ok Tryz.func95 rfl (by kernel_rfl) Tryz.ntmps95 rfl rfl fun E hT hE hN hR=>?_
 have hm:=mixO hE
 refine XK.c ?_ ?_<;>intro h1
 ·exfalso
  simp at h1
 refine XK.w ?_
 refine XK.loop (ι:=Nat) (fun i=>ST.of [(0,clsV l),(1,clsV l),(2,.fn (.func 96) [] []),(15,clsV l),(16,.c (.int .i64 l.length)),(17,.c (.int .i64 i))] [] 1000 32 (fun _=>false))
  (fun i=>i≤l.length) (fun i=>l.length-i) 0 (Nat.zero_le _) (Weak.of hN rfl rfl rfl frI frI) fun i hi=>?_
 refine XK.c ?_ ?_<;>intro hlt<;>try simp at hlt
 ·have fx:l.getD (i:Int).toNat default=l.getD i default:=rfl
  refine XK.w ?_
  rw[fx]
  have sc:=selfCl (l.getD i default) (hs i hlt)
  refine XK.r ?_
  refine XL.callLA hE rfl rfl rfl rfl trivial rfl (sc) rfl ?_
  refine XL.e ?_
  refine XK.c ?_ ?_<;>intro h2
  ·cases h2
  ·refine XK.w ?_
   exact XK.inv ⟨i+1,hlt,(Weak.of hN rfl rfl rfl frI frI),by omega⟩
 ·refine XK.w ?_
  refine XK.q ?_
  rfl
theorem selfK (k:K) (h1:k.holders.length≤1000000) (h2:k.units.length≤1000000) (h3:k.acts.length≤1000000) (h4:k.clauses.length≤1000000) (h5:k.off.length≤1000000) (hs:∀i,i<k.clauses.length→(k.clauses.getD i default).start.length≤1000000):Does Tryz.prog 53 [kV k,kV k] (.c (.bool true)):=by
 have c1:=selfI k.holders h1
 have c2:=selfU k.units h2
 have c3:=selfA k.acts h3
 have c4:=selfI k.off h5
 have c5:=selfCls k.clauses h4 hs
 refine Does.mk (fun _=>false) TT_ok Tryz.func53 rfl (by kernel_rfl) Tryz.ntmps53 rfl rfl fun E hT hE hN hR=>?_
 have hm:=mixO hE
 refine XK.r ?_
 refine XL.callGA hE rfl rfl rfl rfl rfl rfl rfl rfl (c1) rfl ?_
 refine XL.g ?_
 refine XL.callGA hE rfl rfl rfl rfl rfl rfl rfl rfl (c2) rfl ?_
 refine XL.g ?_
 refine XL.callGA hE rfl rfl rfl rfl rfl rfl rfl rfl (c3) rfl ?_
 refine XL.g ?_
 refine XL.callGA hE rfl rfl rfl rfl rfl rfl rfl rfl (c4) rfl ?_
 refine XL.g ?_
 refine XL.callGA hE rfl rfl rfl rfl rfl rfl rfl rfl (c5) rfl ?_
 refine XL.e ?_
 refine XK.q ?_
 refine cB ?_
 simp
end
section
open Go.Eng Go.RowKit Go.Lib
theorem _root_.Go.Eng.Weak.cellsS {E:Env} {st:ST} (k:Nat) {t:Nat} {cs cs':List AV} (hk:st.ob k=some (.cells t cs)) (hl:cs.length=cs'.length) (h:∀(i:Nat) x y,cs[i]?=some x→cs'[i]?=some y→AvS x y):Weak E st {st with ob:=upd st.ob k (some (.cells t cs'))}:=by
 rintro a w ⟨ρ,hs⟩
 refine⟨ρ,hs.keep,hs.tsz,hs.dfr,hs.gl,hs.fr,fun j o ho=>?_,fun j ho=>?_,hs.dis,hs.own,hs.le⟩
 ·by_cases hj:j=k
  ·subst hj
   replace ho:upd st.ob j _ j=some o:=ho
   rw[upd_same] at ho
   injection ho with ho
   subst ho
   obtain⟨g,arr,h1,h2,h3,h4⟩:=hs.ob j _ hk
   refine⟨g,arr,h1,h2,by omega,fun i y hy=>?_⟩
   have hlt:i<cs.length:=by have:=(List.getElem?_eq_some_iff.1 hy).1;omega
   exact h i _ y (List.getElem?_eq_getElem hlt) hy _ _ _ _ (h4 i _ (List.getElem?_eq_getElem hlt))
  ·replace ho:upd st.ob k _ j=some o:=ho
   rw[upd_other _ _ hj] at ho
   exact hs.ob j o ho
 ·by_cases hj:j=k
  ·subst hj
   replace ho:upd st.ob j _ j=none:=ho
   rw[upd_same] at ho
   cases ho
  ·replace ho:upd st.ob k _ j=none:=ho
   rw[upd_other _ _ hj] at ho
   exact hs.no j ho
end
section
open Go.Eng Go.RowKit Go.Lib
abbrev Dc:=Int×Ps×Ps
abbrev Lo:=(Mm×Lg)×(Dc×Bool×Int)
def dC (d:Dc):List AV:=[.c (.int .i64 d.1),.c (.int .i64 d.2.1.1.day),intsV d.2.1.1.holders,boolsV d.2.1.1.used,rowL mkC 5 d.2.1.1.marks,.c (.bool d.2.1.2),.c (.int .i64 d.2.2.1.day),intsV d.2.2.1.holders,boolsV d.2.2.1.used,rowL mkC 5 d.2.2.1.marks,.c (.bool d.2.2.2)]
def loO (p:Int) (s:Lo):List Ob:=[.cells 86 (dC s.2.1),.cells 4 [.c (.bool s.2.2.1)],.cells 32 [.c (.int .i64 s.2.2.2)],.cells 88 [.ptr 5 0],.cells 122 [.c (.int .i64 p),.mp 6,.mp 7,.mp 8,.mp 9,.c (.bool false),.c (.int .i64 0),.c (.int .i64 0),.c (.int .i64 0)],jsO s.1.1,lgO s.1.2,shMO,dmMO]
def loN (p:Int) (s:Lo):List (Nat×Ob):=[(1,.cells 86 (dC s.2.1)),(2,.cells 4 [.c (.bool s.2.2.1)]),(3,.cells 32 [.c (.int .i64 s.2.2.2)]),(4,.cells 88 [.ptr 5 0]),(5,.cells 122 [.c (.int .i64 p),.mp 6,.mp 7,.mp 8,.mp 9,.c (.bool false),.c (.int .i64 0),.c (.int .i64 0),.c (.int .i64 0)]),(6,jsO s.1.1),(7,lgO s.1.2),(8,shMO),(9,dmMO)]
noncomputable def dcD (k:K) (p:Int) (l:List Int) (i:Nat):Dc:=((i:Int),((runE k l i).1,true),toPos k p l i)
noncomputable def csL (k:K) (l:List Int):List AV:=frL 53 [(2,.ptr 4 0),(3,.rptr (stgC k l)),(4,.ptr 1 0),(5,.ptr 2 0),(6,.ptr 3 0)]
theorem decs1_ok (k:K) (hF:KFacts k) (p:Int) (l:List Int) (hl:l.length≤4000) (hok:∀j,j≤l.length→(runE k l j).2=0) (L b:Nat) (mk:LoopState→Option Code→Array Value→Obj) (jmp:Code) (mkE:Array Value→Obj) (st:Nat→Lo×Bool)
  (h0:(st 0).2=false) (hS:∀i,(st i).2=true→∀m,i≤m→st m=st i)
  (hY:∀i,i<l.length→(st i).2=false→DoesR Tryz.prog L [.agg (dC (dcD k p l i))] (.lrec (mk .ready none) b (csL k l)::loO p (st i).1) (.c (.bool (!(st (i+1)).2))) (.lrec (if(st (i+1)).2=false then mk .ready none else mk .done (some jmp)) b (csL k l)::loO p (st (i+1)).1))
  (hE:(if(st l.length).2=false then mk .ready none else mk .done (some jmp))=mkE):
  DoesM Tryz.prog 97 [.fn (.yield L) [] [],.rptr (stgC k l),.rptr [.c (.int .i64 p)]] (.lrec (mk .ready none) b (csL k l)::loO p (st 0).1) (.tup []) (.lrec mkE b (csL k l)::loO p (st l.length).1):=by
 subst hE
 refine DoesM.mk (fun _=>false) 100 TT_ok Tryz.func97 rfl (by kernel_rfl) Tryz.ntmps97 rfl rfl rfl fun E hT hE hN hR=>?_
 have hm:=mixO hE
 refine XK.w ?_
 refine XK.loop (ι:=Nat) (fun i=>ST.of [(0,.fn (.yield L) [] []),(1,.rptr (stgC k l)),(2,.rptr [.c (.int .i64 p)]),(8,intsV l),(9,.c (.int .i64 l.length)),(10,.c (.int .i64 i))]
   ((0,.lrec (mk .ready none) b (csL k l))::loN p (st i).1) 1000 53 (fun _=>false))
  (fun i=>i≤l.length∧(st i).2=false) (fun i=>l.length-i) 0 ⟨Nat.zero_le _,h0⟩ (Weak.of hN rfl rfl rfl frI frI) fun i hi=>?_
 obtain⟨hi,hz⟩:=hi
 refine XK.c ?_ ?_<;>intro hlt<;>try simp at hlt
 ·have hlt:i<l.length:=by omega
  have fx:l.getD (i:Int).toNat default=l.getD i default:=rfl
  have hp1:=position_ok k l i (by omega) (by omega)
  have hp2:=position_ok k l (i+1) (by omega) (by omega)
  have hdo:=doerS_ok k hF.w (runE k l i).1 (l.getD i default)
  have hYi:=hY i hlt hz
  have hSi:=hS (i+1)
  have htp:toPos k p l i=if 0≤l.getD i default∧doerS k (runE k l i).1 (l.getD i default)=p then((runE k l (i+1)).1,true) else((runE k l i).1,false):=rfl
  unfold dcD at hYi
  refine XK.w ?_
  rw[fx]
  refine XK.s ?_
  refine XD.callKA hE rfl rfl rfl rfl trivial rfl rfl (hp1) ?_
  refine XD.g ?_
  refine XD.callKA hE rfl rfl rfl rfl trivial rfl rfl (hp1) ?_
  refine XD.e ?_
  generalize toPos k p l i=tp at*
  generalize (runE k l (i+1)).1=s1 at*
  generalize l.getD i default=t at*
  generalize doerS k (runE k l i).1 t=dr at*
  refine XK.s ?_
  refine XD.callKG hE rfl rfl rfl rfl rfl rfl rfl (by first|(simp[AllP,impG];done)|(simp only[AllP,impG];grind)) rfl rfl (fun hgd=>⟨hdo,(by(repeat' (first|exact rfl|exact AvIs.refl _|exact trivial|(intro i hi;rfl)|exact fun _ _=>⟨rfl,AvIs.refl _⟩|(intro i hi;rcases i with _|_|_|_|_|_|_|i<;>first|rfl|exact absurd hi (by simp;done)|(simp at hi;omega))|refine⟨?_,?_⟩)))⟩) rfl ?_
  refine XD.e ?_
  refine XK.w ?_;refine XK.join (ST.of [(0,.fn (.yield L) [] []),(1,.rptr (stgC k l)),(2,.rptr [.c (.int .i64 p)]),(4,.c (.int .i64 i)),(6,.ptr 1112 0),(8,intsV l),(9,.c (.int .i64 l.length)),(10,.c (.int .i64 i))]
   ((0,.lrec (mk .ready none) b (csL k l))::loN p (st i).1++[(1112,.cells 86 (dC ((i:Int),((runE k l i).1,true),tp)))]) 3000 53 (fun _=>false)) rfl (fun h4=>?_) (fun h4=>?_) ?_
  ·have h4:0≤t∧dr=p:=by simpa using h4
   rw[if_pos h4] at htp
   subst htp
   refine XK.r ?_
   refine XL.callKA hE rfl rfl rfl rfl trivial rfl rfl (hp2) ?_
   refine XL.e ?_
   exact XK.inv (Weak.of hN rfl rfl rfl frI frI)
  ·have h4:¬(0≤t∧dr=p):=by simpa using h4
   rw[if_neg h4] at htp
   subst htp
   refine XK.w ?_
   exact XK.inv (Weak.of hN rfl rfl rfl frI frI)
  refine XK.r ?_
  ((refine XL.yieldM [0,1,2,3,4,5,6,7,8,9] hE rfl rfl rfl rfl trivial (hYi) rfl ?_ rfl ?_ rfl rfl rfl ?_);(focus (repeat' (first|exact rfl|exact AvIs.refl _|exact trivial|(intro i hi;rfl)|exact fun _ _=>⟨rfl,AvIs.refl _⟩|(intro i hi;rcases i with _|_|_|_|_|_|_|i<;>first|rfl|exact absurd hi (by simp;done)|(simp at hi;omega))|refine⟨?_,?_⟩)));(focus (repeat' (first|exact rfl|exact AvIs.refl _|exact trivial|(intro i hi;rfl)|exact fun _ _=>⟨rfl,AvIs.refl _⟩|(intro i hi;rcases i with _|_|_|_|_|_|_|i<;>first|rfl|exact absurd hi (by simp;done)|(simp at hi;omega))|refine⟨?_,?_⟩))))
  refine XL.e ?_
  refine XK.c ?_ ?_<;>intro h5
  ·have h5:(st (i+1)).2=true:=by simpa using h5
   have hlast:=hSi h5 l.length hlt
   rw[hlast,if_neg (show ¬(st (i+1)).2=false by rw[h5];simp)]
   refine XK.w ?_
   refine XK.t [0,1,2,3,4,5,6,7,8,9] ?_ ?_
   ·exact frI
   ·exact frI
  ·have h5:(st (i+1)).2=false:=by simpa using h5
   rw[if_pos h5]
   refine XK.w ?_
   exact XK.inv ⟨i+1,⟨hlt,h5⟩,(Weak.of hN rfl rfl rfl frI frI),by omega⟩
 ·have hie:i=l.length:=by omega
  subst hie
  rw[if_pos hz]
  refine XK.w ?_
  refine XK.t [0,1,2,3,4,5,6,7,8,9] ?_ ?_
  ·exact frI
  ·exact frI
end
end Go.Proofs.YtgpkkllbejgmlaaGreatDoor
