import Derived.Test.YtgpkkllbejgmlaaGreatDoorZz14
import Derived.Test.YtgpkkllbejgmlaaGreatDoorZz23
import Derived.Test.YtgpkkllbejgmlaaGreatDoorZz19
set_option linter.unusedSimpArgs false
set_option linter.unusedVariables false
set_option maxRecDepth 10000
namespace Go.Proofs.YtgpkkllbejgmlaaGreatDoor
section
open Go.Eng Go.RowKit Go.Lib Go.Sort
theorem text_ok (x:Ps) (hs:TxOk x.1):Does Tryz.prog 86 [psV x] (.c (.string ⟨(txA x).toArray⟩)):=by
 have hrow:∀L:List UInt8,bytesS L.length (fun i=>byC (L.getD i 0))=⟨L.toArray⟩:=fun L=>bytesS_row L
 obtain⟨s,own⟩:=x
 have hw:=hs.day
 have n1:=hs.nh
 have n2:=hs.nu
 have n3:=hs.nm
 have hh:=hs.hold
 have hmk:=hs.mark
 clear hs
 dsimp only at hw n1 n2 n3 hh hmk
 have l0:([fgB own]++nb s.day).length≤50:=by have:=nb_len hw;simp;omega
 have l1:∀i,(cutL nb (s.holders.take i)).length≤2200:=fun i=>by have:=takeI (l:=s.holders) (b:=22) (fun i hi=>nb_len (hh i hi)) i;omega
 have l2:∀i,(cutL (fun b=>[fgB b]) (s.used.take i)).length≤2200:=fun i=>by
  refine Nat.le_trans (cutL_len (fun b=>[fgB b]) 22 _ fun b _=>?_) (by rw[List.length_take];omega)
  simp
 have l3:∀i,(cutL mkT (s.marks.take i)).length≤44000:=fun i=>by
  refine Nat.le_trans (cutL_len mkT 110 _ fun m hm=>?_) (by rw[List.length_take];omega)
  obtain⟨j,hj,rfl⟩:=List.getElem_of_mem (List.mem_of_mem_take hm)
  have:=hmk j hj
  rw[List.getD_eq_getElem?_getD,List.getElem?_eq_getElem hj] at this
  obtain⟨a,b,c,d⟩:=this
  have:=nb_len a
  have:=nb_len b
  have:=nb_len c
  have:=nb_len d
  simp only[Option.getD_some] at*
  simp only[mkT,List.length_append,List.length_cons,List.length_nil];omega
 have hP1:[fgB own]++nb s.day=[fgB own]++nb s.day:=rfl
 refine Does.mk (fun _=>false) TT_ok Tryz.func86 rfl (by kernel_rfl) Tryz.ntmps86 rfl rfl fun E hT hE hN hR=>?_
 have hm:=mixO hE
 refine XK.w ?_
 refine XK.weak (Weak.of (L:=[(1,.ptr 1 0),(3,.ptr 88 0),(4,.fn (.func 128) [] [.ptr 88 0]),(5,.fn (.func 130) [] [.ptr 88 0])]) (O:=[(1,.cells 50 (psC (s,own))),(88,.cells 210 [.vec 103 0]),(103,bO 0 [])]) (nx:=1000) (nt:=85) (md:=fun _=>false) hN rfl rfl rfl frI (by(repeat' (first|exact rfl|exact AvIs.refl _|exact trivial|exact fun _ _=>rfl|exact fun _ _=>⟨rfl,AvIs.refl _⟩|exact cI (by omega)|exact(fun j hj=>absurd hj (Nat.not_lt_zero _))|refine⟨?_,?_⟩)))) ?_
 refine XK.r ?_
 refine XL.callMA [88,103] hE rfl rfl rfl rfl trivial (flagA_ok own [] (by simp)) rfl rfl rfl rfl rfl ?_
 refine XL.e ?_
 refine XK.weak (Weak.trans (Weak.stamp (k:=103) (t:=0) hN rfl rfl) (Weak.of (L:=[(1,.ptr 1 0),(3,.ptr 88 0),(4,.fn (.func 128) [] [.ptr 88 0]),(5,.fn (.func 130) [] [.ptr 88 0])]) (O:=[(1,.cells 50 (psC (s,own))),(88,.cells 210 [.vec 103 0]),(103,bO 0 ([]++[fgB own]))]) (nx:=1000) (nt:=85) (md:=fun _=>false) hN rfl rfl rfl frV frI)) ?_
 refine XK.r ?_
 refine XL.callMA [88,103] hE rfl rfl rfl rfl trivial (wA_ok s.day hw ([]++[fgB own]) (by simp)) rfl rfl rfl rfl rfl ?_
 refine XL.e ?_
 refine XK.w ?_
 have tk:∀i,i<(s.holders).length→[]++[fgB own]++nb s.day++cutL nb (s.holders.take (i+1))=[]++[fgB own]++nb s.day++cutL nb (s.holders.take i)++(nb (s.holders.getD i default)):=fun i h=>by rw[cutL_succ _ _ _ h];simp only[List.append_assoc]
 refine XK.loop (ι:=Nat) (fun i=>ST.of [(1,.ptr 1 0),(3,.ptr 88 0),(4,.fn (.func 128) [] [.ptr 88 0]),(5,.fn (.func 130) [] [.ptr 88 0]),(32,intsV s.holders),(33,.c (.int .i64 (s.holders.length:Nat))),(34,.c (.int .i64 i))] [(1,.cells 50 (psC (s,own))),(88,.cells 210 [.vec 103 0]),(103,bO 0 ([]++[fgB own]++nb s.day++cutL nb (s.holders.take i)))] 1000 85 (fun _=>false))
  (fun i=>i≤s.holders.length) (fun i=>s.holders.length-i) 0 (Nat.zero_le _) (by rw[List.take_zero,show cutL nb []=[] from rfl,List.append_nil];exact Weak.trans (Weak.stamp (k:=103) (t:=0) hN rfl rfl) (Weak.of hN rfl rfl rfl frV frI)) fun i hi=>?_
 refine XK.c ?_ ?_<;>intro hlt<;>try simp at hlt
 ·have fx:s.holders.getD (i:Int).toNat default=s.holders.getD i default:=rfl
  have hL:([]++[fgB own]++nb s.day++cutL nb (s.holders.take i)).length≤800000:=by have:=l1 s.holders.length;have:=l1 i;have:=l2 i;have:=l2 s.used.length;have:=l3 i;simp only[List.length_append,List.length_nil,List.take_length] at*;omega
  have hz:=hh i hlt
  have tki:=tk i hlt
  (try dsimp only at tki)
  refine XK.w ?_
  rw[fx]
  generalize s.holders.getD i default=z at*
  refine XK.r ?_
  refine XL.callMA [88,103] hE rfl rfl rfl rfl trivial (wA_ok z hz ([]++[fgB own]++nb s.day++cutL nb (s.holders.take i)) (by omega)) rfl rfl rfl rfl rfl ?_
  refine XL.e ?_
  refine XK.inv ⟨i+1,hlt,?_,by omega⟩
  rw[tki]
  exact Weak.trans (Weak.stamp (k:=103) (t:=0) hN rfl rfl) (Weak.of hN rfl rfl rfl frV frI)
 have hie:i=s.holders.length:=by omega
 subst hie
 rw[List.take_length]
 clear hlt hi tk
 refine XK.w ?_
 have tk:∀i,i<(s.used).length→[]++[fgB own]++nb s.day++cutL nb s.holders++cutL (fun b=>[fgB b]) (s.used.take (i+1))=[]++[fgB own]++nb s.day++cutL nb s.holders++cutL (fun b=>[fgB b]) (s.used.take i)++((fun b=>[fgB b]) (s.used.getD i default)):=fun i h=>by rw[cutL_succ _ _ _ h];simp only[List.append_assoc]
 refine XK.loop (ι:=Nat) (fun i=>ST.of [(1,.ptr 1 0),(3,.ptr 88 0),(4,.fn (.func 128) [] [.ptr 88 0]),(5,.fn (.func 130) [] [.ptr 88 0]),(44,boolsV s.used),(45,.c (.int .i64 (s.used.length:Nat))),(46,.c (.int .i64 i))] [(1,.cells 50 (psC (s,own))),(88,.cells 210 [.vec 103 0]),(103,bO 0 ([]++[fgB own]++nb s.day++cutL nb s.holders++cutL (fun b=>[fgB b]) (s.used.take i)))] 1000 85 (fun _=>false))
  (fun i=>i≤s.used.length) (fun i=>s.used.length-i) 0 (Nat.zero_le _) (by rw[List.take_zero,show cutL (fun b=>[fgB b]) []=[] from rfl,List.append_nil];exact Weak.of hN rfl rfl rfl frV frI) fun i hi=>?_
 refine XK.c ?_ ?_<;>intro hlt<;>try simp at hlt
 ·have fx:s.used.getD (i:Int).toNat default=s.used.getD i default:=rfl
  have hL:([]++[fgB own]++nb s.day++cutL nb s.holders++cutL (fun b=>[fgB b]) (s.used.take i)).length≤800000:=by have:=l1 s.holders.length;have:=l1 i;have:=l2 i;have:=l2 s.used.length;have:=l3 i;simp only[List.length_append,List.length_nil,List.take_length] at*;omega
  have tki:=tk i hlt
  (try dsimp only at tki)
  refine XK.w ?_
  rw[fx]
  generalize s.used.getD i default=z at*
  refine XK.r ?_
  refine XL.callMA [88,103] hE rfl rfl rfl rfl trivial (flagA_ok z ([]++[fgB own]++nb s.day++cutL nb s.holders++cutL (fun b=>[fgB b]) (s.used.take i)) (by omega)) rfl rfl rfl rfl rfl ?_
  refine XL.e ?_
  refine XK.inv ⟨i+1,hlt,?_,by omega⟩
  rw[tki]
  exact Weak.trans (Weak.stamp (k:=103) (t:=0) hN rfl rfl) (Weak.of hN rfl rfl rfl frV frI)
 have hie:i=s.used.length:=by omega
 subst hie
 rw[List.take_length]
 clear hlt hi tk
 refine XK.w ?_
 have tk:∀i,i<(s.marks).length→[]++[fgB own]++nb s.day++cutL nb s.holders++cutL (fun b=>[fgB b]) s.used++cutL mkT (s.marks.take (i+1))=[]++[fgB own]++nb s.day++cutL nb s.holders++cutL (fun b=>[fgB b]) s.used++cutL mkT (s.marks.take i)++(mkT (s.marks.getD i default)):=fun i h=>by rw[cutL_succ _ _ _ h];simp only[List.append_assoc]
 refine XK.loop (ι:=Nat) (fun i=>ST.of [(1,.ptr 1 0),(3,.ptr 88 0),(4,.fn (.func 128) [] [.ptr 88 0]),(5,.fn (.func 130) [] [.ptr 88 0]),(56,rowL mkC 5 s.marks),(57,.c (.int .i64 (s.marks.length:Nat))),(58,.c (.int .i64 i))] [(1,.cells 50 (psC (s,own))),(88,.cells 210 [.vec 103 0]),(103,bO 0 ([]++[fgB own]++nb s.day++cutL nb s.holders++cutL (fun b=>[fgB b]) s.used++cutL mkT (s.marks.take i)))] 1000 85 (fun _=>false))
  (fun i=>i≤s.marks.length) (fun i=>s.marks.length-i) 0 (Nat.zero_le _) (by rw[List.take_zero,show cutL mkT []=[] from rfl,List.append_nil];exact Weak.of hN rfl rfl rfl frV frI) fun i hi=>?_
 refine XK.c ?_ ?_<;>intro hlt<;>try simp at hlt
 ·have fx:s.marks.getD (i:Int).toNat default=s.marks.getD i default:=rfl
  have hL:([]++[fgB own]++nb s.day++cutL nb s.holders++cutL (fun b=>[fgB b]) s.used++cutL mkT (s.marks.take i)).length≤800000:=by have:=l1 s.holders.length;have:=l1 i;have:=l2 i;have:=l2 s.used.length;have:=l3 i;simp only[List.length_append,List.length_nil,List.take_length] at*;omega
  have hz:=hmk i hlt
  have tki:=tk i hlt
  (try dsimp only at tki)
  refine XK.w ?_
  rw[fx]
  generalize s.marks.getD i default=m at*
  obtain⟨w1,w2,w3,w4⟩:=hz
  have q1:=nb_len w1
  have q2:=nb_len w2
  have q3:=nb_len w3
  have q4:=nb_len w4
  refine XK.r ?_
  refine XL.callMA [88,103] hE rfl rfl rfl rfl trivial (wA_ok m.status w1 ([]++[fgB own]++nb s.day++cutL nb s.holders++cutL (fun b=>[fgB b]) s.used++cutL mkT (s.marks.take i)) (by simp only[List.length_append] at*;omega)) rfl rfl rfl rfl rfl ?_
  refine XL.e ?_
  refine XK.weak (Weak.trans (Weak.stamp (k:=103) (t:=0) hN rfl rfl) (Weak.of (L:=[(1,.ptr 1 0),(3,.ptr 88 0),(4,.fn (.func 128) [] [.ptr 88 0]),(5,.fn (.func 130) [] [.ptr 88 0]),(56,rowL mkC 5 s.marks),(57,.c (.int .i64 (s.marks.length:Nat))),(58,.c (.int .i64 i)),(11,.ptr 1096 0)]) (O:=[(1,.cells 50 (psC (s,own))),(88,.cells 210 [.vec 103 0]),(103,bO 0 ((([]++[fgB own]++nb s.day++cutL nb s.holders++cutL (fun b=>[fgB b]) s.used++cutL mkT (s.marks.take i))++nb m.status))),(1096,.cells 56 (mkC m))]) (nx:=3000) (nt:=85) (md:=fun _=>false) hN rfl rfl rfl frI frI)) ?_
  refine XK.r ?_
  refine XL.callMA [88,103] hE rfl rfl rfl rfl trivial (wA_ok m.left w2 (([]++[fgB own]++nb s.day++cutL nb s.holders++cutL (fun b=>[fgB b]) s.used++cutL mkT (s.marks.take i))++nb m.status) (by simp only[List.length_append] at*;omega)) rfl rfl rfl rfl rfl ?_
  refine XL.e ?_
  refine XK.weak (Weak.trans (Weak.stamp (k:=103) (t:=0) hN rfl rfl) (Weak.of (L:=[(1,.ptr 1 0),(3,.ptr 88 0),(4,.fn (.func 128) [] [.ptr 88 0]),(5,.fn (.func 130) [] [.ptr 88 0]),(56,rowL mkC 5 s.marks),(57,.c (.int .i64 (s.marks.length:Nat))),(58,.c (.int .i64 i)),(11,.ptr 1096 0)]) (O:=[(1,.cells 50 (psC (s,own))),(88,.cells 210 [.vec 103 0]),(103,bO 0 (((([]++[fgB own]++nb s.day++cutL nb s.holders++cutL (fun b=>[fgB b]) s.used++cutL mkT (s.marks.take i))++nb m.status)++nb m.left))),(1096,.cells 56 (mkC m))]) (nx:=3000) (nt:=85) (md:=fun _=>false) hN rfl rfl rfl frI frI)) ?_
  refine XK.r ?_
  refine XL.callMA [88,103] hE rfl rfl rfl rfl trivial (wA_ok m.got w3 ((([]++[fgB own]++nb s.day++cutL nb s.holders++cutL (fun b=>[fgB b]) s.used++cutL mkT (s.marks.take i))++nb m.status)++nb m.left) (by simp only[List.length_append] at*;omega)) rfl rfl rfl rfl rfl ?_
  refine XL.e ?_
  refine XK.weak (Weak.trans (Weak.stamp (k:=103) (t:=0) hN rfl rfl) (Weak.of (L:=[(1,.ptr 1 0),(3,.ptr 88 0),(4,.fn (.func 128) [] [.ptr 88 0]),(5,.fn (.func 130) [] [.ptr 88 0]),(56,rowL mkC 5 s.marks),(57,.c (.int .i64 (s.marks.length:Nat))),(58,.c (.int .i64 i)),(11,.ptr 1096 0)]) (O:=[(1,.cells 50 (psC (s,own))),(88,.cells 210 [.vec 103 0]),(103,bO 0 ((((([]++[fgB own]++nb s.day++cutL nb s.holders++cutL (fun b=>[fgB b]) s.used++cutL mkT (s.marks.take i))++nb m.status)++nb m.left)++nb m.got))),(1096,.cells 56 (mkC m))]) (nx:=3000) (nt:=85) (md:=fun _=>false) hN rfl rfl rfl frI frI)) ?_
  refine XK.r ?_
  refine XL.callMA [88,103] hE rfl rfl rfl rfl trivial (wA_ok m.bearer w4 (((([]++[fgB own]++nb s.day++cutL nb s.holders++cutL (fun b=>[fgB b]) s.used++cutL mkT (s.marks.take i))++nb m.status)++nb m.left)++nb m.got) (by simp only[List.length_append] at*;omega)) rfl rfl rfl rfl rfl ?_
  refine XL.e ?_
  refine XK.weak (Weak.trans (Weak.stamp (k:=103) (t:=0) hN rfl rfl) (Weak.of (L:=[(1,.ptr 1 0),(3,.ptr 88 0),(4,.fn (.func 128) [] [.ptr 88 0]),(5,.fn (.func 130) [] [.ptr 88 0]),(56,rowL mkC 5 s.marks),(57,.c (.int .i64 (s.marks.length:Nat))),(58,.c (.int .i64 i)),(11,.ptr 1096 0)]) (O:=[(1,.cells 50 (psC (s,own))),(88,.cells 210 [.vec 103 0]),(103,bO 0 (((((([]++[fgB own]++nb s.day++cutL nb s.holders++cutL (fun b=>[fgB b]) s.used++cutL mkT (s.marks.take i))++nb m.status)++nb m.left)++nb m.got)++nb m.bearer))),(1096,.cells 56 (mkC m))]) (nx:=3000) (nt:=85) (md:=fun _=>false) hN rfl rfl rfl frI frI)) ?_
  refine XK.r ?_
  refine XL.callMA [88,103] hE rfl rfl rfl rfl trivial (flagA_ok m.paused ((((([]++[fgB own]++nb s.day++cutL nb s.holders++cutL (fun b=>[fgB b]) s.used++cutL mkT (s.marks.take i))++nb m.status)++nb m.left)++nb m.got)++nb m.bearer) (by simp only[List.length_append] at*;omega)) rfl rfl rfl rfl rfl ?_
  refine XL.e ?_
  refine XK.inv ⟨i+1,hlt,?_,by omega⟩
  rw[tki,show mkT m=nb m.status++(nb m.left++(nb m.got++(nb m.bearer++[fgB m.paused]))) from rfl]
  simp only[←List.append_assoc]
  exact Weak.trans (Weak.stamp (k:=103) (t:=0) hN rfl rfl) (Weak.of hN rfl rfl rfl frV frI)
 have hie:i=s.marks.length:=by omega
 subst hie
 rw[List.take_length]
 clear hlt hi tk
 refine XK.weak (Weak.frozen (k:=103) hN rfl rfl) ?_
 refine XK.w ?_
 refine XK.q ?_
 rw[hrow]
 unfold txA
 simp only[List.nil_append,List.append_assoc]
end
section
open Go.Eng Go.RowKit Go.Lib
theorem clnA_ints (l:List Int) (hl:l.length≤1000000):Does Tryz.prog 25 [intsV l] (intsV l):=by
 refine Does.mk (fun d=>Nat.beq d 5) TT_ok Tryz.func25 rfl (by kernel_rfl) Tryz.ntmps25 rfl rfl fun E hT hE hN hR=>?_
 have hm:=mixO hE
 by_cases h0:l.length=0
 ·obtain rfl:l=[]:=List.length_eq_zero_iff.1 h0
  refine XK.rsNil 0 rfl fun A cap hc=>?_
  refine XK.c ?_ ?_<;>intro h1
  ·refine XK.w ?_
   refine XK.weak (Weak.rsNil 2 1 (fun i=>iC (([]:List Int).getD i default)) (Nat.zero_le _) rfl) ?_
   refine XK.w ?_
   refine XK.q ?_
   rfl
  ·refine XK.weak (Weak.rsNil 0 1 (fun i=>iC (([]:List Int).getD i default)) hc rfl) ?_
   refine XK.w ?_
   refine XK.weak (Weak.frozen (k:=21) hN rfl rfl) ?_
   refine XK.w ?_
   refine XK.l ?_
   exact⟨rfl,rfl,fun i hi=>absurd hi (Nat.not_lt_zero _)⟩
 ·refine XK.c ?_ ?_<;>intro h1
  ·cases h1
  ·refine XK.w ?_
   refine XK.weak (Weak.frozen (k:=21) hN rfl rfl) ?_
   refine XK.w ?_
   refine XK.l ?_
   exact⟨rfl,Nat.zero_add _,fun i hi=>by cases i<;>rfl⟩
theorem clnA_bools (l:List Bool) (hl:l.length≤1000000):Does Tryz.prog 126 [boolsV l] (boolsV l):=by
 refine Does.mk (fun d=>Nat.beq d 5) TT_ok Tryz.func126 rfl (by kernel_rfl) Tryz.ntmps126 rfl rfl fun E hT hE hN hR=>?_
 have hm:=mixO hE
 by_cases h0:l.length=0
 ·obtain rfl:l=[]:=List.length_eq_zero_iff.1 h0
  refine XK.rsNil 0 rfl fun A cap hc=>?_
  refine XK.c ?_ ?_<;>intro h1
  ·refine XK.w ?_
   refine XK.weak (Weak.rsNil 2 1 (fun i=>bC (([]:List Bool).getD i default)) (Nat.zero_le _) rfl) ?_
   refine XK.w ?_
   refine XK.q ?_
   rfl
  ·refine XK.weak (Weak.rsNil 0 1 (fun i=>bC (([]:List Bool).getD i default)) hc rfl) ?_
   refine XK.w ?_
   refine XK.weak (Weak.frozen (k:=21) hN rfl rfl) ?_
   refine XK.w ?_
   refine XK.l ?_
   exact⟨rfl,rfl,fun i hi=>absurd hi (Nat.not_lt_zero _)⟩
 ·refine XK.c ?_ ?_<;>intro h1
  ·cases h1
  ·refine XK.w ?_
   refine XK.weak (Weak.frozen (k:=21) hN rfl rfl) ?_
   refine XK.w ?_
   refine XK.l ?_
   exact⟨rfl,Nat.zero_add _,fun i hi=>by cases i<;>rfl⟩
theorem clnA_marks (l:List Mk) (hl:l.length≤1000000):Does Tryz.prog 127 [rowL mkC 5 l] (rowL mkC 5 l):=by
 refine Does.mk (fun d=>Nat.beq d 5) TT_ok Tryz.func127 rfl (by kernel_rfl) Tryz.ntmps127 rfl rfl fun E hT hE hN hR=>?_
 have hm:=mixO hE
 by_cases h0:l.length=0
 ·obtain rfl:l=[]:=List.length_eq_zero_iff.1 h0
  refine XK.rsNil 0 rfl fun A cap hc=>?_
  refine XK.c ?_ ?_<;>intro h1
  ·refine XK.w ?_
   refine XK.weak (Weak.rsNil 2 5 (fun i=>mkC (([]:List Mk).getD i default)) (Nat.zero_le _) rfl) ?_
   refine XK.w ?_
   refine XK.q ?_
   rfl
  ·refine XK.weak (Weak.rsNil 0 5 (fun i=>mkC (([]:List Mk).getD i default)) hc rfl) ?_
   refine XK.w ?_
   refine XK.weak (Weak.frozen (k:=21) hN rfl rfl) ?_
   refine XK.w ?_
   refine XK.l ?_
   exact⟨rfl,rfl,fun i hi=>absurd hi (Nat.not_lt_zero _)⟩
 ·refine XK.c ?_ ?_<;>intro h1
  ·cases h1
  ·refine XK.w ?_
   refine XK.weak (Weak.frozen (k:=21) hN rfl rfl) ?_
   refine XK.w ?_
   refine XK.l ?_
   exact⟨rfl,Nat.zero_add _,fun i hi=>by cases i<;>rfl⟩
theorem copiedA_ok (s:St) (h1:s.holders.length≤1000000) (h2:s.used.length≤1000000) (h3:s.marks.length≤1000000):Does Tryz.prog 85 [stV s] (stV s):=by
 have c1:=clnA_ints s.holders h1
 have c2:=clnA_bools s.used h2
 have c3:=clnA_marks s.marks h3
 refine Does.mk (fun _=>false) TT_ok Tryz.func85 rfl (by kernel_rfl) Tryz.ntmps85 rfl rfl fun E hT hE hN hR=>?_
 have hm:=mixO hE
 refine XK.s ?_
 refine XD.callKA hE rfl rfl rfl rfl trivial rfl rfl (c1) ?_
 refine XD.g ?_
 refine XD.callKA hE rfl rfl rfl rfl trivial rfl rfl (c2) ?_
 refine XD.g ?_
 refine XD.callKA hE rfl rfl rfl rfl trivial rfl rfl (c3) ?_
 refine XD.e ?_
 refine XK.w ?_
 refine XK.q ?_
 rfl
noncomputable def plB (k:K) (p:Int) (x:Ps):Bool:=decide (0≤p)&&decide (p<k.parties)&&validS k x.1
theorem playable_ok (k:K) (hk:kW k) (p:Int) (x:Ps):Does Tryz.prog 84 [kV k,.c (.int .i64 p),psV x] (.c (.bool (plB k p x))):=by
 have hv:=validS_ok k hk x.1
 unfold plB
 refine Does.mk (fun _=>false) TT_ok Tryz.func84 rfl (by kernel_rfl) Tryz.ntmps84 rfl rfl fun E hT hE hN hR=>?_
 have hm:=mixO hE
 refine XK.r ?_
 refine XL.callGA hE rfl rfl rfl rfl rfl rfl rfl rfl (hv) rfl ?_
 refine XL.e ?_
 refine XK.q ?_
 refine cB ?_
 generalize validS k x.1=b
 cases b<;>simp
end
section
open Go.Eng Go.RowKit Go.Lib
structure Ex where
 ps:List Ps
 fnd:List UInt8→Option Nat
 cur:List (Int×Nat)
def addE (s:Ex) (m:Int×Ps):Ex:=match s.fnd (txA m.2) with
 |some t=>{s with cur:=s.cur++[(m.1,t)]}
 |none=>⟨s.ps++[m.2],fun u=>if u=txA m.2 then some s.ps.length else s.fnd u,s.cur++[(m.1,s.ps.length)]⟩
structure ExOk (k:K) (s:Ex):Prop where
 valid:∀x∈s.ps,validS k x.1=true
 found:∀t j,s.fnd t=some j→j<s.ps.length∧txA (psAt s.ps j)=t
section
variable {k:K} {p:Int}
theorem valid_len {s t:St} (h1:validS k s=true) (h2:validS k t=true):sameLen s t:=by
 obtain⟨-,a1,a2,a3,-⟩:=validS_len h1
 obtain⟨-,b1,b2,b3,-⟩:=validS_len h2
 exact⟨by omega,by omega,by omega⟩
theorem mv_valid (hk:kW k) {x:Ps} (hv:validS k x.1=true):∀m∈mvS k p x,validS k m.2.1=true:=fun m hm=>by
 have hl:=validS_len hv
 have good (hd:¬k.days≤x.1.day) (t:Int) (h1:-1≤t) (h2:t<k.acts.length):(stepS k x.1 t).2=0:=by
  unfold stepS
  rw[if_neg (by simp only[hv,Bool.or_eq_true,Bool.not_eq_true',decide_eq_true_eq,not_or];exact⟨⟨by simp,by omega⟩,by omega⟩),if_neg (by omega)]
 unfold mvS at hm
 rcases List.mem_append.1 hm with hm|hm
 ·split at hm
  ·rw[List.mem_singleton.1 hm];exact hv
  ·cases hm
 ·split at hm
  ·cases hm
  ·rename_i hd
   rcases List.mem_append.1 hm with hm|hm
   ·split at hm
    ·cases hm
    ·rw[List.mem_singleton.1 hm]
     exact validS_step hk (good hd (-1) (by omega) (by omega))
   ·obtain⟨a,ha,hq⟩:=List.mem_filterMap.1 hm
    have ha:a<k.acts.length:=List.mem_range.1 ha
    split at hq
    ·injection hq with hq
     rw[←hq]
     exact validS_step hk (good hd (a:Int) (by omega) (by omega))
    ·cases hq
theorem psAt_app {l r:List Ps} {j:Nat} (h:j<l.length):psAt (l++r) j=psAt l j:=by
 unfold psAt
 simp[List.getD,List.getElem?_append_left h]
theorem psAt_mem {l:List Ps} {j:Nat} (h:j<l.length):psAt l j∈l:=by
 unfold psAt
 rw[List.getD_eq_getElem?_getD,List.getElem?_eq_getElem h]
 exact List.getElem_mem h
theorem ExOk.add {s:Ex} (h:ExOk k s) {m:Int×Ps} (hm:validS k m.2.1=true):ExOk k (addE s m)∧(∃r,(addE s m).ps=s.ps++r)∧∃t,t<(addE s m).ps.length∧(addE s m).cur=s.cur++[(m.1,t)]∧psAt (addE s m).ps t=m.2:=by
 unfold addE
 split
 ·rename_i t ht
  obtain⟨h1,h2⟩:=h.found _ _ ht
  exact⟨⟨h.valid,h.found⟩,⟨[],(List.append_nil _).symm⟩,t,h1,rfl,txA_inj (valid_len (h.valid _ (psAt_mem h1)) hm) h2⟩
 ·rename_i hn
  have hlast:psAt (s.ps++[m.2]) s.ps.length=m.2:=by unfold psAt;simp[List.getD]
  refine⟨⟨fun x hx=>?_,fun t j hj=>?_⟩,⟨[m.2],rfl⟩,s.ps.length,by simp,rfl,hlast⟩
  ·rcases List.mem_append.1 hx with q|q
   ·exact h.valid x q
   ·rw[List.mem_singleton.1 q];exact hm
  ·have hj:(if t=txA m.2 then some s.ps.length else s.fnd t)=some j:=hj
   split at hj
   ·rename_i e
    injection hj with hj
    subst hj
    exact⟨by simp,by rw[hlast,e]⟩
   ·obtain⟨h1,h2⟩:=h.found t j hj
    exact⟨by rw[List.length_append];omega,by rw[psAt_app h1];exact h2⟩
theorem ExOk.adds:∀(l:List (Int×Ps)),(∀m∈l,validS k m.2.1=true)→∀{s:Ex},ExOk k s→ExOk k (l.foldl addE s)∧(∃r,(l.foldl addE s).ps=s.ps++r)∧∃c:List (Int×Nat),(l.foldl addE s).cur=s.cur++c∧(∀x∈c,x.2<(l.foldl addE s).ps.length)∧c.map (fun x=>psAt (l.foldl addE s).ps x.2)=l.map (·.2)
 |[],_,s,h=>⟨h,⟨[],(List.append_nil _).symm⟩,[],(List.append_nil _).symm,(fun x hx=>absurd hx List.not_mem_nil),rfl⟩
 |m::l,hl,s,h=>by
  obtain⟨h1,⟨r1,e1⟩,t,ht,hc,hp⟩:=h.add (hl m List.mem_cons_self)
  obtain⟨h2,⟨r2,e2⟩,c,hc2,hlt,hmap⟩:=ExOk.adds l (fun x hx=>hl x (List.mem_cons_of_mem _ hx)) h1
  have e2':(List.foldl addE s (m::l)).ps=(addE s m).ps++r2:=e2
  refine⟨h2,⟨r1++r2,by rw[e2',e1,List.append_assoc]⟩,(m.1,t)::c,?_,fun x hx=>?_,?_⟩
  ·show(List.foldl addE (addE s m) l).cur=_
   rw[hc2,hc,List.append_assoc]
   rfl
  ·rcases List.mem_cons.1 hx with q|q
   ·rw[q,e2',List.length_append]
    show t<_
    omega
   ·exact hlt x q
  ·show psAt (List.foldl addE (addE s m) l).ps t::List.map _ c=m.2::List.map _ l
   rw[e2,psAt_app ht,hp]
   exact congrArg (m.2::·) hmap
end
end
section
open Go.Eng Go.RowKit Go.Lib
abbrev ArS:=Ex×List (List (Int×Nat))
def arBeg (x:Ps):ArS:=(⟨[x],fun u=>if u=txA x then some 0 else none,[]⟩,[])
noncomputable def arNext (k:K) (p:Int) (s:ArS) (i:Nat):ArS:=((mvS k p (psAt s.1.ps i)).foldl addE {s.1 with cur:=[]},s.2++[((mvS k p (psAt s.1.ps i)).foldl addE {s.1 with cur:=[]}).cur])
noncomputable def arT (k:K) (p:Int) (x:Ps):Nat→ArS
 |0=>arBeg x
 |i+1=>arNext k p (arT k p x i) i
structure ArOk (k:K) (p:Int) (x:Ps) (s:ArS) (i:Nat):Prop where
 ok:ExOk k s.1
 first:0<s.1.ps.length∧psAt s.1.ps 0=x
 len:s.2.length=i
 lt:∀j,j<i→∀m∈s.2.getD j [],m.2<s.1.ps.length
 edge:∀j,j<i→(s.2.getD j []).map (fun m=>psAt s.1.ps m.2)=(mvS k p (psAt s.1.ps j)).map (·.2)
section
variable {k:K} {p:Int} {x:Ps}
theorem ArOk.begin (hv:validS k x.1=true):ArOk k p x (arBeg x) 0:=by
 refine⟨⟨fun y hy=>?_,fun t j hj=>?_⟩,⟨by simp[arBeg],rfl⟩,rfl,fun j hj=>absurd hj (Nat.not_lt_zero _),fun j hj=>absurd hj (Nat.not_lt_zero _)⟩
 ·rw[List.mem_singleton.1 hy];exact hv
 ·have hj:(if t=txA x then some 0 else none)=some j:=hj
  split at hj
  ·rename_i e
   injection hj with hj
   subst hj
   exact⟨by simp[arBeg],e.symm⟩
  ·cases hj
theorem ArOk.next (hk:kW k) {s:ArS} {i:Nat} (h:ArOk k p x s i) (hi:i<s.1.ps.length):ArOk k p x (arNext k p s i) (i+1):=by
 have hb:ExOk k {s.1 with cur:=[]}:=⟨h.ok.valid,h.ok.found⟩
 obtain⟨h1,⟨r,e⟩,c,hc,hlt,hmap⟩:=ExOk.adds (mvS k p (psAt s.1.ps i)) (mv_valid hk (h.ok.valid _ (psAt_mem hi))) hb
 have hc:((mvS k p (psAt s.1.ps i)).foldl addE {s.1 with cur:=[]}).cur=c:=hc
 have e:((mvS k p (psAt s.1.ps i)).foldl addE {s.1 with cur:=[]}).ps=s.1.ps++r:=e
 unfold arNext
 rw[hc]
 generalize hS:(mvS k p (psAt s.1.ps i)).foldl addE {s.1 with cur:=[]}=S at*
 have hpa {j:Nat} (hj:j<s.1.ps.length):psAt S.ps j=psAt s.1.ps j:=by rw[e,psAt_app hj]
 have hg {j:Nat} (hj:j<i):(s.2++[c]).getD j []=s.2.getD j []:=by
  have:=h.len
  simp[List.getD,List.getElem?_append_left (show j<s.2.length by omega)]
 have hgi:(s.2++[c]).getD i []=c:=by
  have:=h.len
  simp[List.getD,←this]
 refine⟨h1,⟨by show 0<S.ps.length;rw[e,List.length_append];have:=h.first.1;omega,by rw[hpa h.first.1];exact h.first.2⟩,by simp[h.len],fun j hj m hm=>?_,fun j hj=>?_⟩
 ·show m.2<S.ps.length
  by_cases hji:j=i
  ·subst hji
   rw[hgi] at hm
   exact hlt m hm
  ·rw[hg (by omega)] at hm
   have:=h.lt j (by omega) m hm
   rw[e,List.length_append]
   omega
 ·show((s.2++[c]).getD j []).map (fun m=>psAt S.ps m.2)=(mvS k p (psAt S.ps j)).map (·.2)
  by_cases hji:j=i
  ·subst hji
   rw[hgi,hpa hi]
   exact hmap
  ·have hj:j<i:=by omega
   rw[hg hj,hpa (by omega),←h.edge j hj]
   refine List.map_congr_left fun m hm=>?_
   exact hpa (h.lt j hj m hm)
theorem arT_ok (hk:kW k) (hv:validS k x.1=true):∀i,(∀j,j<i→j<(arT k p x j).1.ps.length)→ArOk k p x (arT k p x i) i
 |0,_=>ArOk.begin hv
 |i+1,h=>(arT_ok hk hv i fun j hj=>h j (by omega)).next hk (h i (by omega))
theorem ArOk.arena {s:ArS} {i:Nat} (h:ArOk k p x s i) (hi:i=s.1.ps.length):ArenaOk k p s.1.ps (fun j=>(s.2.getD j []).map (·.2)):=by
 refine⟨fun j hj=>h.ok.valid _ (psAt_mem hj),fun j hj t ht=>?_,fun j hj=>?_⟩
 ·obtain⟨m,hm,rfl⟩:=List.mem_map.1 ht
  exact h.lt j (by omega) m hm
 ·rw[List.map_map]
  exact h.edge j (by omega)
end
end
section
open Go.Eng Go.RowKit Go.Lib
structure Nd (s:Ex):Prop where
 nodup:s.ps.Nodup
 full:∀y∈s.ps,(s.fnd (txA y)).isSome=true
theorem Nd.add {s:Ex} (h:Nd s) (m:Int×Ps):Nd (addE s m):=by
 unfold addE
 split
 ·exact⟨h.nodup,h.full⟩
 ·rename_i hn
  have hnot:m.2∉s.ps:=fun q=>by have:=h.full _ q;rw[hn] at this;cases this
  refine⟨?_,fun y hy=>?_⟩
  ·show(s.ps++[m.2]).Nodup
   rw[List.nodup_append]
   exact⟨h.nodup,by simp,fun a ha b hb e=>by rw[List.mem_singleton.1 hb] at e;exact hnot (e▸ha)⟩
  ·show(if txA y=txA m.2 then some s.ps.length else s.fnd (txA y)).isSome=true
   split
   ·rfl
   ·rename_i hne
    rcases List.mem_append.1 hy with q|q
    ·exact h.full y q
    ·rw[List.mem_singleton.1 q] at hne;exact absurd rfl hne
theorem Nd.adds:∀(l:List (Int×Ps)) {s:Ex},Nd s→Nd (l.foldl addE s)
 |[],_,h=>h
 |m::l,_,h=>Nd.adds l (h.add m)
theorem sub_add {S:Ps→Prop} {s:Ex} (h:∀y∈s.ps,S y) {m:Int×Ps} (hm:S m.2):∀y∈(addE s m).ps,S y:=by
 unfold addE
 split
 ·exact h
 ·intro y hy
  rcases List.mem_append.1 hy with q|q
  ·exact h y q
  ·rw[List.mem_singleton.1 q];exact hm
theorem sub_adds {S:Ps→Prop}:∀(l:List (Int×Ps)) {s:Ex},(∀y∈s.ps,S y)→(∀m∈l,S m.2)→∀y∈(l.foldl addE s).ps,S y
 |[],_,h,_=>h
 |m::l,_,h,hm=>sub_adds l (sub_add h (hm m List.mem_cons_self)) fun x hx=>hm x (List.mem_cons_of_mem _ hx)
theorem arT_nd (k:K) (p:Int) (x:Ps):∀i,Nd (arT k p x i).1
 |0=>⟨List.nodup_cons.2 ⟨List.not_mem_nil,List.nodup_nil⟩,fun y hy=>by
   rw[List.mem_singleton.1 hy]
   show(if txA x=txA x then some 0 else none).isSome=true
   rw[if_pos rfl];rfl⟩
 |i+1=>Nd.adds _ (s:={(arT k p x i).1 with cur:=[]}) ⟨(arT_nd k p x i).nodup,(arT_nd k p x i).full⟩
theorem arT_sub {k:K} {p:Int} {x:Ps} {S:Ps→Prop} (hS:∀y,S y→∀m∈mvS k p y,S m.2) (hx:S x):∀i,(∀j,j<i→j<(arT k p x j).1.ps.length)→∀y∈(arT k p x i).1.ps,S y
 |0,_=>fun y hy=>by rw[List.mem_singleton.1 hy];exact hx
 |i+1,h=>sub_adds _ (s:={(arT k p x i).1 with cur:=[]}) (arT_sub hS hx i fun j hj=>h j (by omega)) (hS _ (arT_sub hS hx i (fun j hj=>h j (by omega)) _ (psAt_mem (h i (by omega)))))
theorem nodup_len {α:Type}:∀{l r:List α},l.Nodup→(∀x∈l,x∈r)→l.length≤r.length
 |[],_,_,_=>Nat.zero_le _
 |a::l,r,hn,hs=>by
  obtain⟨r1,r2,e⟩:=List.append_of_mem (hs a List.mem_cons_self)
  rw[List.nodup_cons] at hn
  have:l.length≤(r1++r2).length:=nodup_len hn.2 fun x hx=>by
   have:=hs x (List.mem_cons_of_mem _ hx)
   rw[e] at this
   rcases List.mem_append.1 this with q|q
   ·exact List.mem_append_left _ q
   ·rcases List.mem_cons.1 q with q|q
    ·exact absurd (q▸hx) hn.1
    ·exact List.mem_append_right _ q
  rw[e]
  simp only[List.length_append,List.length_cons] at this ⊢
  omega
theorem arT_len {k:K} {p:Int} {ps:List Ps} {mv:Nat→List Nat} (h:ArenaOk k p ps mv) {y:Ps} (hy:y∈ps) {i:Nat} (hi:∀j,j<i→j<(arT k p y j).1.ps.length):(arT k p y i).1.ps.length≤ps.length:=by
 refine nodup_len (arT_nd k p y i).nodup (arT_sub (S:=fun z=>z∈ps) (fun z hz m hm=>?_) hy i hi)
 obtain⟨j,hj,e⟩:=List.getElem_of_mem hz
 have hz:psAt ps j=z:=by unfold psAt;rw[List.getD_eq_getElem?_getD,List.getElem?_eq_getElem hj];exact e
 have he:=h.edge j hj
 rw[hz] at he
 have:m.2∈(mv j).map (psAt ps):=by rw[he];exact List.mem_map.2 ⟨m,hm,rfl⟩
 obtain⟨t,ht,e2⟩:=List.mem_map.1 this
 rw[←e2]
 exact psAt_mem (h.lt j hj t ht)
end
section
open Go.Eng Go.RowKit Go.Lib
theorem _root_.Go.Eng.XL.skipG {E:Env} {ops:Array Oper} {Q:Exit→ST→Prop} {o:Oper} {rest:List Oper} {fr:Nat→AV} {ob:Nat→Option Ob} {nx nt:Nat} {md:Nat→Bool} {j d:Nat} {pol:Bool} (x:AV) (hg:o.guard=some (j,pol)) (hgv:gval ⟨fr,ob,nx,nt,md⟩ ops.toList j pol=some false) (hds:o.dst=some d) (hdl:Nat.blt d nt=true) (hda:ops.toList.all (dstOk ⟨fun _=>.junk,fun _=>none,nx,nt,md⟩)=true)
  (h:XL E ops Q rest ⟨upd fr d (.gd false x),ob,nx,nt,md⟩):XL E ops Q (o::rest) ⟨fr,ob,nx,nt,md⟩:=by
 refine XL.step (StepTo.skip x hg hgv rfl (by simp[dstOk,hds,hdl]) hda) ?_
 rw[hds];exact h
abbrev FS:=Ex×Bool
def mvC (m:Int×Nat):List AV:=[.c (.int .i64 m.1),.c (.int .i64 (m.2:Nat))]
def fV (f:List UInt8→Option Nat):Value→Option Nat
 |.string b=>f b.data.toList
 |_=>none
def fO (f:List UInt8→Option Nat):Ob:=.mapb .str (.int .i64 0) (fun v=>(fV f v).isSome) (fun v=>.c (.int .i64 (((fV f v).getD 0:Nat))))
def psO (s:Nat) (l:List Ps):Ob:=.vec 50 5 s l.length (fun j=>psC (psAt l j))
def mvO (s:Nat) (l:List (Int×Nat)):Ob:=.vec 175 2 s l.length (fun j=>mvC (l.getD j default))
def mvsO (l:List (List (Int×Nat))):Ob:=.vec 170 1 0 l.length (fun j=>[rowL mvC 2 (l.getD j [])])
def frO (p:Int) (mv:List (List (Int×Nat))) (s:FS):List Ob:=[.cells 107 [.c (.int .i64 p),.vec 2 (2*(s.1.ps.length+cond s.2 1 0)),.vec 3 0],psO (2*(s.1.ps.length+cond s.2 1 0)) s.1.ps,mvsO mv,.cells 169 [.mp 5],fO s.1.fnd,.cells 170 [.vec 7 (2*s.1.cur.length)],mvO (2*s.1.cur.length) s.1.cur,
 .cells 107 [.c (.int .i64 0),.c (.slice none 0 0),.c (.slice none 0 0)],.cells 32 [.c (.int .i64 (if s.2=true then 3 else 0))]]
def frN (p:Int) (mv:List (List (Int×Nat))) (s:FS):List (Nat×Ob):=[(1,.cells 107 [.c (.int .i64 p),.vec 2 (2*(s.1.ps.length+cond s.2 1 0)),.vec 3 0]),(2,psO (2*(s.1.ps.length+cond s.2 1 0)) s.1.ps),(3,mvsO mv),(4,.cells 169 [.mp 5]),(5,fO s.1.fnd),(6,.cells 170 [.vec 7 (2*s.1.cur.length)]),(7,mvO (2*s.1.cur.length) s.1.cur),
 (8,.cells 107 [.c (.int .i64 0),.c (.slice none 0 0),.c (.slice none 0 0)]),(9,.cells 32 [.c (.int .i64 (if s.2=true then 3 else 0))])]
def csF:List AV:=frL 91 [(6,.ptr 8 0),(7,.ptr 9 0),(8,.ptr 1 0),(9,.ptr 4 0),(11,.ptr 6 0)]
noncomputable def mvB (k:K) (x:Ps):List (Int×Ps):=(if x.2=true then[(-2,(x.1,false))] else[])++(if x.2=true then[] else[(-1,((stepS k x.1 (-1)).1,true))])
noncomputable def actF1 (k:K) (p:Int) (x:Ps) (a:Nat):Option (Int×Ps):=if((doerW k x.1.wk.hold a==p)==x.2&&!sameS (stepS k x.1 (a:Int)).1 x.1)=true then some ((a:Int),((stepS k x.1 (a:Int)).1,true)) else none
noncomputable def mvT (k:K) (p:Int) (x:Ps) (i:Nat):List (Int×Ps):=mvB k x++(List.range i).filterMap (actF1 k p x)
theorem mvT_succ (k:K) (p:Int) (x:Ps) (i:Nat):mvT k p x (i+1)=mvT k p x i++(actF1 k p x i).toList:=by
 unfold mvT
 rw[List.range_succ,List.filterMap_append,←List.append_assoc]
 cases h:actF1 k p x i<;>simp[h]
theorem mvT_pre {k:K} {p:Int} {x:Ps} {i:Nat} (h:i<k.acts.length):∃r,mvT k p x k.acts.length=mvT k p x (i+1)++r:=by
 obtain⟨d,hd⟩:∃d,k.acts.length=i+1+d:=⟨k.acts.length-(i+1),by omega⟩
 rw[hd]
 clear hd h
 induction d with
 |zero=>exact⟨[],(List.append_nil _).symm⟩
 |succ d ih=>
  obtain⟨r,hr⟩:=ih
  exact⟨r++(actF1 k p x (i+1+d)).toList,by rw[←Nat.add_assoc,mvT_succ,hr,List.append_assoc]⟩
theorem mvT_len (k:K) (p:Int) (x:Ps) (i:Nat):(mvT k p x i).length≤2+i:=by
 have h:=List.length_filterMap_le (actF1 k p x) (List.range i)
 rw[List.length_range] at h
 unfold mvT mvB
 rw[List.length_append,List.length_append]
 have h1:(if x.2=true then[((-2:Int),(x.1,false))] else[]).length≤1:=by split<;>simp
 have h2:(if x.2=true then[] else[((-1:Int),((stepS k x.1 (-1)).1,true))]).length≤1:=by split<;>simp
 omega
theorem mvT_all {k:K} {p:Int} {x:Ps} (h:¬k.days≤x.1.day):mvS k p x=mvT k p x k.acts.length:=by
 unfold mvS mvT mvB
 rw[if_neg h,List.append_assoc]
 rfl
theorem mvS_day {k:K} {p:Int} {x:Ps} (h:k.days≤x.1.day):mvS k p x=if x.2=true then[(-2,(x.1,false))] else[]:=by
 unfold mvS
 rw[if_pos h,List.append_nil]
theorem moves1_ok (k:K) (hF:KFacts k) (p:Int) (x:Ps) (hv:validS k x.1=true) (L b:Nat) (mk:LoopState→Option Code→Array Value→Obj) (jmp:Code) (mkE:Array Value→Obj) (mv:List (List (Int×Nat))) (st:List (Int×Ps)→FS)
  (h0:(st []).2=false)
  (hS:∀l,(st l).2=true→∀r,st (l++r)=st l)
  (hY:∀l m,l.length≤100→(st l).2=false→validS k m.2.1=true→
   DoesR Tryz.prog L [.c (.int .i64 m.1),psV m.2] (.lrec (mk .ready none) b csF::frO p mv (st l)) (.c (.bool (!(st (l++[m])).2))) (.lrec (if(st (l++[m])).2=false then mk .ready none else mk .done (some jmp)) b csF::frO p mv (st (l++[m]))))
  (hE:(if(st (mvS k p x)).2=false then mk .ready none else mk .done (some jmp))=mkE):
  DoesM Tryz.prog 131 [.fn (.yield L) [] [],.rptr (psC x),.rptr (kC k),.rptr [.c (.int .i64 p)]] (.lrec (mk .ready none) b csF::frO p mv (st [])) (.tup []) (.lrec mkE b csF::frO p mv (st (mvS k p x))):=by
 subst hE
 have hk:=hF.w
 have hl:=validS_len hv
 have hn:=hF.nh
 have hna:=hF.na
 have hnc:=hF.nc
 have cp:=copiedA_ok x.1 (by omega) (by omega) (by omega)
 have good (hd:¬k.days≤x.1.day) (t:Int) (h1:-1≤t) (h2:t<k.acts.length):(stepS k x.1 t).2=0:=by
  unfold stepS
  rw[if_neg (by simp only[hv,Bool.or_eq_true,Bool.not_eq_true',decide_eq_true_eq,not_or];exact⟨⟨by simp,by omega⟩,by omega⟩),if_neg (by omega)]
 obtain⟨s,own⟩:=x
 dsimp only at*
 have hY1:=hY [] (-2,(s,false)) (by simp) h0 hv
 rw[List.nil_append] at hY1
 refine DoesM.mk (fun _=>false) 100 TT_ok Tryz.func131 rfl (by kernel_rfl) Tryz.ntmps131 rfl rfl rfl fun E hT hE hN hR=>?_
 have hm:=mixO hE
 cases own with
 |true=>
  have hday:=mvS_day (k:=k) (p:=p) (x:=(s,true))
  have hT0:mvT k p (s,true) 0=[(-2,(s,false))]:=rfl
  refine XK.w ?_
  refine XK.r ?_
  refine XL.callMG [] (.c (.bool false)) hE rfl rfl rfl rfl rfl rfl (fun hgd=>?_) rfl (fun hgd=>?_) (fun hgd=>cp.toM rfl) rfl ?_ rfl (fun hgd=>?_) rfl rfl rfl (fun hgd=>?_)
  ·cases hgd
  ·simp[AllP,impG]
  ·exact frI
  ·trivial
  refine XL.g ?_
  (refine XL.yieldMG [0,1,2,3,4,5,6,7,8,9] (.c (.bool false)) hE rfl rfl rfl rfl rfl rfl (fun hgd=>nomatch hgd) rfl (fun hgd=>?_) (fun hgd=>hY1) rfl ?_ rfl (fun hgd=>?_) rfl rfl rfl (fun hgd=>?_);(focus (first|exact trivial|(simp only[AllP,impG,hgd];done)|(simp only[AllP,impG,hgd];simp;done)));(focus (repeat' (first|exact rfl|exact AvIs.refl _|exact trivial|(intro i hi;rfl)|exact fun _ _=>⟨rfl,AvIs.refl _⟩|(intro i hi;rcases i with _|_|_|_|_|_|_|i<;>first|rfl|exact absurd hi (by simp;done)|(simp at hi;omega))|refine⟨?_,?_⟩)));(focus (repeat' (first|exact rfl|exact AvIs.refl _|exact trivial|(intro i hi;rfl)|exact fun _ _=>⟨rfl,AvIs.refl _⟩|(intro i hi;rcases i with _|_|_|_|_|_|_|i<;>first|rfl|exact absurd hi (by simp;done)|(simp at hi;omega))|refine⟨?_,?_⟩))))
  refine XL.e ?_
  refine XK.c ?_ ?_<;>intro h1
  ·have e:st (mvS k p (s,true))=st [(-2,(s,false))]:=by
    by_cases hz:(st [(-2,(s,false))]).2=true
    ·obtain⟨r,hr⟩:∃r,mvS k p (s,true)=[(-2,(s,false))]++r:=⟨_,rfl⟩
     rw[hr]
     exact hS _ hz r
    ·have hz:(st [(-2,(s,false))]).2=false:=by simpa using hz
     rw[hz] at h1
     rw[hday (by simpa using h1)]
     rfl
   rw[e]
   refine XK.w ?_
   refine XK.t [0,1,2,3,4,5,6,7,8,9] ?_ ?_
   ·exact frI
   ·exact frI
  have hz:(st [(-2,(s,false))]).2=false∧¬k.days≤s.day:=by
   cases hq:(st [(-2,(s,false))]).2<;>rw[hq] at h1<;>simp at h1 ⊢
   omega
  obtain⟨hz,hd⟩:=hz
  clear h1
  rw[if_pos hz]
  refine XK.c ?_ ?_<;>intro h2
  ·cases h2
  refine XK.w ?_
  refine XK.loop (ι:=Nat) (fun i=>ST.of [(0,.fn (.yield L) [] []),(1,.rptr (psC (s,true))),(2,.rptr (kC k)),(3,.rptr [.c (.int .i64 p)]),(47,actsV k.acts),(48,.c (.int .i64 k.acts.length)),(49,.c (.int .i64 i))]
    ((0,.lrec (mk .ready none) b csF)::frN p mv (st (mvT k p (s,true) i))) 1000 92 (fun _=>false))
   (fun i=>i≤k.acts.length∧(st (mvT k p (s,true) i)).2=false) (fun i=>k.acts.length-i) 0 ⟨Nat.zero_le _,by rw[hT0];exact hz⟩ (by rw[hT0];exact(Weak.of hN rfl rfl rfl frI frI)) fun i hi=>?_
  obtain⟨hi,hst⟩:=hi
  refine XK.c ?_ ?_<;>intro hlt<;>try simp at hlt
  ·have hlt:i<k.acts.length:=by omega
   have fx:k.acts.getD (i:Int).toNat default=acAt k i:=rfl
   have hr:=(actF (hF.act i hlt)).1
   have hsn:=mvT_succ k p (s,true) i
   have hs:=stepS_ok k hk s i
   have hss:=sameS_ok (stepS k s i).1 s
   have hac:actF1 k p (s,true) i=if((doerW k s.wk.hold i==p)==true&&!sameS (stepS k s (i:Int)).1 s)=true then some ((i:Int),((stepS k s (i:Int)).1,true)) else none:=rfl
   have hYi:=hY (mvT k p (s,true) i) ((i:Int),((stepS k s (i:Int)).1,true)) (by have:=mvT_len k p (s,true) i;omega) hst (validS_step hk (good hd i (by omega) (by omega)))
   have hSi:=hS (mvT k p (s,true) i++[((i:Int),((stepS k s (i:Int)).1,true))])
   have hpre:∃r,mvT k p (s,true) k.acts.length=mvT k p (s,true) (i+1)++r:=mvT_pre hlt
   generalize hTT:mvT k p (s,true) i=T at*
   generalize hT1:mvT k p (s,true) (i+1)=T1 at*
   generalize stepS k s (i:Int)=r at*
   have hdw:doerW k s.wk.hold i=if(acAt k i).role=-1 then -1 else s.holders.getD (acAt k i).role.toNat default:=rfl
   generalize doerW k s.wk.hold i=dw at*
   refine XK.w ?_
   rw[fx]
   generalize acAt k i=a at*
   refine XK.w ?_;refine XK.join (ST.of [(0,.fn (.yield L) [] []),(1,.rptr (psC (s,true))),(2,.rptr (kC k)),(3,.rptr [.c (.int .i64 p)]),(7,.c (.int .i64 i)),(9,.c (.int .i64 dw)),(47,actsV k.acts),(48,.c (.int .i64 k.acts.length)),(49,.c (.int .i64 i))]
    ((0,.lrec (mk .ready none) b csF)::frN p mv (st T)) 3000 92 (fun _=>false)) rfl (fun h4=>?_) (fun h4=>?_) ?_
   ·have h4:a.role≠-1:=by simpa using h4
    rw[if_neg h4] at hdw
    subst hdw
    refine XK.w ?_
    exact XK.inv (Weak.of hN rfl rfl rfl frI frI)
   ·have h4:a.role=-1:=by simpa using h4
    rw[if_pos h4] at hdw
    subst hdw
    refine XK.w ?_
    exact XK.inv (Weak.of hN rfl rfl rfl frI frI)
   refine XK.c ?_ ?_<;>intro h5
   ·have h5:((dw==p)==true)=false:=by cases hh:(dw==p)<;>simp[hh] at h5 ⊢
    rw[h5,Bool.false_and,if_neg (by simp)] at hac
    rw[hac,Option.toList_none,List.append_nil] at hsn
    refine XK.w ?_
    refine XK.inv ⟨i+1,⟨hlt,by rw[hT1,hsn];exact hst⟩,?_,by omega⟩
    rw[hT1,hsn]
    exact(Weak.of hN rfl rfl rfl frI frI)
   ·have h5:((dw==p)==true)=true:=by cases hh:(dw==p)<;>simp[hh] at h5 ⊢
    rw[h5,Bool.true_and] at hac
    refine XK.w ?_
    refine XK.r ?_
    refine XL.callKA hE rfl rfl rfl rfl trivial rfl rfl (hs) ?_
    refine XL.e ?_
    refine XK.r ?_
    refine XL.callKA hE rfl rfl rfl rfl trivial rfl rfl (hss) ?_
    refine XL.g ?_
    generalize hsm:sameS r.1 s=sm at*
    cases sm with
    |true=>
     rw[if_neg (by simp)] at hac
     rw[hac,Option.toList_none,List.append_nil] at hsn
     refine XL.yieldMG [0,1,2,3,4,5,6,7,8,9] (.c (.bool false)) hE rfl rfl rfl rfl rfl rfl (fun hgd=>?_) rfl (fun hgd=>?_) (fun hgd=>hYi) rfl ?_ rfl (fun hgd=>?_) rfl rfl rfl (fun hgd=>?_)
     ·refine XL.e ?_
      refine XK.c ?_ ?_<;>intro hb
      ·cases hb
      refine XK.w ?_
      refine XK.inv ⟨i+1,⟨hlt,by rw[hT1,hsn];exact hst⟩,?_,by omega⟩
      rw[hT1,hsn]
      exact(Weak.of hN rfl rfl rfl frI frI)
     ·cases hgd
     ·exact frI
     ·cases hgd
     ·cases hgd
    |false=>
     rw[if_pos (by simp)] at hac
     rw[hac,Option.toList_some] at hsn
     rw[←hsn] at hYi hSi
     (refine XL.yieldMG [0,1,2,3,4,5,6,7,8,9] (.c (.bool false)) hE rfl rfl rfl rfl rfl rfl (fun hgd=>nomatch hgd) rfl (fun hgd=>?_) (fun hgd=>hYi) rfl ?_ rfl (fun hgd=>?_) rfl rfl rfl (fun hgd=>?_);(focus (first|exact trivial|(simp only[AllP,impG,hgd];done)|(simp only[AllP,impG,hgd];simp;done)));(focus (repeat' (first|exact rfl|exact AvIs.refl _|exact trivial|(intro i hi;rfl)|exact fun _ _=>⟨rfl,AvIs.refl _⟩|(intro i hi;rcases i with _|_|_|_|_|_|_|i<;>first|rfl|exact absurd hi (by simp;done)|(simp at hi;omega))|refine⟨?_,?_⟩)));(focus (repeat' (first|exact rfl|exact AvIs.refl _|exact trivial|(intro i hi;rfl)|exact fun _ _=>⟨rfl,AvIs.refl _⟩|(intro i hi;rcases i with _|_|_|_|_|_|_|i<;>first|rfl|exact absurd hi (by simp;done)|(simp at hi;omega))|refine⟨?_,?_⟩))))
     refine XL.e ?_
     refine XK.c ?_ ?_<;>intro hb
     ·have hb:(st T1).2=true:=by simpa using hb
      obtain⟨r',hr'⟩:=hpre
      have hlast:=hSi hb r'
      rw[mvT_all hd,hr',hlast,if_neg (show ¬(st T1).2=false by rw[hb];simp)]
      refine XK.w ?_
      refine XK.t [0,1,2,3,4,5,6,7,8,9] ?_ ?_
      ·exact frI
      ·exact frI
     ·have hb:(st T1).2=false:=by simpa using hb
      rw[if_pos hb]
      refine XK.w ?_
      refine XK.inv ⟨i+1,⟨hlt,by rw[hT1];exact hb⟩,?_,by omega⟩
      rw[hT1]
      exact(Weak.of hN rfl rfl rfl frI frI)
  ·have hie:i=k.acts.length:=by omega
   subst hie
   rw[mvT_all hd,if_pos hst]
   refine XK.w ?_
   refine XK.t [0,1,2,3,4,5,6,7,8,9] ?_ ?_
   ·exact frI
   ·exact frI
 |false=>
  have hday:k.days≤s.day→mvS k p (s,false)=[]:=fun h=>(mvS_day (k:=k) (p:=p) (x:=(s,false)) h).trans (if_neg (by simp))
  have hT0:mvT k p (s,false) 0=[(-1,((stepS k s (-1)).1,true))]:=rfl
  refine XK.w ?_
  refine XK.r ?_
  refine XL.skipG (.c (.bool false)) rfl rfl rfl rfl rfl ?_
  refine XL.skipG (.c (.bool false)) rfl rfl rfl rfl rfl ?_
  refine XL.skipG (.c (.bool false)) rfl rfl rfl rfl rfl ?_
  refine XL.e ?_
  refine XK.c ?_ ?_<;>intro h1
  ·rw[hday (by simpa using h1),if_pos h0]
   refine XK.w ?_
   refine XK.t [0,1,2,3,4,5,6,7,8,9] ?_ ?_
   ·exact frI
   ·exact frI
  have hd:¬k.days≤s.day:=by simpa using h1
  clear h1 hY1
  have hs1:=stepS_ok k hk s (-1)
  have hY2:=hY [] (-1,((stepS k s (-1)).1,true)) (by simp) h0 (validS_step hk (good hd (-1) (by omega) (by omega)))
  rw[List.nil_append,←hT0] at hY2
  have hS1:=hS (mvT k p (s,false) 0)
  obtain⟨r',hr'⟩:∃r,mvT k p (s,false) k.acts.length=mvT k p (s,false) 0++r:=⟨_,by rw[hT0];rfl⟩
  generalize hT0':mvT k p (s,false) 0=T0 at*
  generalize stepS k s (-1)=r at*
  refine XK.c ?_ ?_<;>intro h2
  rotate_left
  ·cases h2
  refine XK.w ?_
  refine XK.r ?_
  refine XL.callKA hE rfl rfl rfl rfl trivial rfl rfl (hs1) ?_
  refine XL.e ?_
  refine XK.r ?_
  ((refine XL.yieldM [0,1,2,3,4,5,6,7,8,9] hE rfl rfl rfl rfl trivial (hY2) rfl ?_ rfl ?_ rfl rfl rfl ?_);(focus (repeat' (first|exact rfl|exact AvIs.refl _|exact trivial|(intro i hi;rfl)|exact fun _ _=>⟨rfl,AvIs.refl _⟩|(intro i hi;rcases i with _|_|_|_|_|_|_|i<;>first|rfl|exact absurd hi (by simp;done)|(simp at hi;omega))|refine⟨?_,?_⟩)));(focus (repeat' (first|exact rfl|exact AvIs.refl _|exact trivial|(intro i hi;rfl)|exact fun _ _=>⟨rfl,AvIs.refl _⟩|(intro i hi;rcases i with _|_|_|_|_|_|_|i<;>first|rfl|exact absurd hi (by simp;done)|(simp at hi;omega))|refine⟨?_,?_⟩))))
  refine XL.e ?_
  refine XK.c ?_ ?_<;>intro h3
  ·have h3:(st T0).2=true:=by simpa using h3
   rw[mvT_all hd,hr',hS1 h3,if_neg (show ¬(st T0).2=false by rw[h3];simp)]
   refine XK.w ?_
   refine XK.t [0,1,2,3,4,5,6,7,8,9] ?_ ?_
   ·exact frI
   ·exact frI
  have hz:(st T0).2=false:=by simpa using h3
  clear h3
  rw[if_pos hz]
  refine XK.w ?_
  refine XK.loop (ι:=Nat) (fun i=>ST.of [(0,.fn (.yield L) [] []),(1,.rptr (psC (s,false))),(2,.rptr (kC k)),(3,.rptr [.c (.int .i64 p)]),(47,actsV k.acts),(48,.c (.int .i64 k.acts.length)),(49,.c (.int .i64 i))]
    ((0,.lrec (mk .ready none) b csF)::frN p mv (st (mvT k p (s,false) i))) 1000 92 (fun _=>false))
   (fun i=>i≤k.acts.length∧(st (mvT k p (s,false) i)).2=false) (fun i=>k.acts.length-i) 0 ⟨Nat.zero_le _,by rw[hT0'];exact hz⟩ (by rw[hT0'];exact(Weak.of hN rfl rfl rfl frI frI)) fun i hi=>?_
  obtain⟨hi,hst⟩:=hi
  refine XK.c ?_ ?_<;>intro hlt<;>try simp at hlt
  ·have hlt:i<k.acts.length:=by omega
   have fx:k.acts.getD (i:Int).toNat default=acAt k i:=rfl
   have hr:=(actF (hF.act i hlt)).1
   have hsn:=mvT_succ k p (s,false) i
   have hs:=stepS_ok k hk s i
   have hss:=sameS_ok (stepS k s i).1 s
   have hac:actF1 k p (s,false) i=if((doerW k s.wk.hold i==p)==false&&!sameS (stepS k s (i:Int)).1 s)=true then some ((i:Int),((stepS k s (i:Int)).1,true)) else none:=rfl
   have hYi:=hY (mvT k p (s,false) i) ((i:Int),((stepS k s (i:Int)).1,true)) (by have:=mvT_len k p (s,false) i;omega) hst (validS_step hk (good hd i (by omega) (by omega)))
   have hSi:=hS (mvT k p (s,false) i++[((i:Int),((stepS k s (i:Int)).1,true))])
   have hpre:∃r,mvT k p (s,false) k.acts.length=mvT k p (s,false) (i+1)++r:=mvT_pre hlt
   generalize hTT:mvT k p (s,false) i=T at*
   generalize hT1:mvT k p (s,false) (i+1)=T1 at*
   generalize stepS k s (i:Int)=r at*
   have hdw:doerW k s.wk.hold i=if(acAt k i).role=-1 then -1 else s.holders.getD (acAt k i).role.toNat default:=rfl
   generalize doerW k s.wk.hold i=dw at*
   refine XK.w ?_
   rw[fx]
   generalize acAt k i=a at*
   refine XK.w ?_;refine XK.join (ST.of [(0,.fn (.yield L) [] []),(1,.rptr (psC (s,false))),(2,.rptr (kC k)),(3,.rptr [.c (.int .i64 p)]),(7,.c (.int .i64 i)),(9,.c (.int .i64 dw)),(47,actsV k.acts),(48,.c (.int .i64 k.acts.length)),(49,.c (.int .i64 i))]
    ((0,.lrec (mk .ready none) b csF)::frN p mv (st T)) 3000 92 (fun _=>false)) rfl (fun h4=>?_) (fun h4=>?_) ?_
   ·have h4:a.role≠-1:=by simpa using h4
    rw[if_neg h4] at hdw
    subst hdw
    refine XK.w ?_
    exact XK.inv (Weak.of hN rfl rfl rfl frI frI)
   ·have h4:a.role=-1:=by simpa using h4
    rw[if_pos h4] at hdw
    subst hdw
    refine XK.w ?_
    exact XK.inv (Weak.of hN rfl rfl rfl frI frI)
   refine XK.c ?_ ?_<;>intro h5
   ·have h5:((dw==p)==false)=false:=by cases hh:(dw==p)<;>simp[hh] at h5 ⊢
    rw[h5,Bool.false_and,if_neg (by simp)] at hac
    rw[hac,Option.toList_none,List.append_nil] at hsn
    refine XK.w ?_
    refine XK.inv ⟨i+1,⟨hlt,by rw[hT1,hsn];exact hst⟩,?_,by omega⟩
    rw[hT1,hsn]
    exact(Weak.of hN rfl rfl rfl frI frI)
   ·have h5:((dw==p)==false)=true:=by cases hh:(dw==p)<;>simp[hh] at h5 ⊢
    rw[h5,Bool.true_and] at hac
    refine XK.w ?_
    refine XK.r ?_
    refine XL.callKA hE rfl rfl rfl rfl trivial rfl rfl (hs) ?_
    refine XL.e ?_
    refine XK.r ?_
    refine XL.callKA hE rfl rfl rfl rfl trivial rfl rfl (hss) ?_
    refine XL.g ?_
    generalize hsm:sameS r.1 s=sm at*
    cases sm with
    |true=>
     rw[if_neg (by simp)] at hac
     rw[hac,Option.toList_none,List.append_nil] at hsn
     refine XL.yieldMG [0,1,2,3,4,5,6,7,8,9] (.c (.bool false)) hE rfl rfl rfl rfl rfl rfl (fun hgd=>?_) rfl (fun hgd=>?_) (fun hgd=>hYi) rfl ?_ rfl (fun hgd=>?_) rfl rfl rfl (fun hgd=>?_)
     ·refine XL.e ?_
      refine XK.c ?_ ?_<;>intro hb
      ·cases hb
      refine XK.w ?_
      refine XK.inv ⟨i+1,⟨hlt,by rw[hT1,hsn];exact hst⟩,?_,by omega⟩
      rw[hT1,hsn]
      exact(Weak.of hN rfl rfl rfl frI frI)
     ·cases hgd
     ·exact frI
     ·cases hgd
     ·cases hgd
    |false=>
     rw[if_pos (by simp)] at hac
     rw[hac,Option.toList_some] at hsn
     rw[←hsn] at hYi hSi
     (refine XL.yieldMG [0,1,2,3,4,5,6,7,8,9] (.c (.bool false)) hE rfl rfl rfl rfl rfl rfl (fun hgd=>nomatch hgd) rfl (fun hgd=>?_) (fun hgd=>hYi) rfl ?_ rfl (fun hgd=>?_) rfl rfl rfl (fun hgd=>?_);(focus (first|exact trivial|(simp only[AllP,impG,hgd];done)|(simp only[AllP,impG,hgd];simp;done)));(focus (repeat' (first|exact rfl|exact AvIs.refl _|exact trivial|(intro i hi;rfl)|exact fun _ _=>⟨rfl,AvIs.refl _⟩|(intro i hi;rcases i with _|_|_|_|_|_|_|i<;>first|rfl|exact absurd hi (by simp;done)|(simp at hi;omega))|refine⟨?_,?_⟩)));(focus (repeat' (first|exact rfl|exact AvIs.refl _|exact trivial|(intro i hi;rfl)|exact fun _ _=>⟨rfl,AvIs.refl _⟩|(intro i hi;rcases i with _|_|_|_|_|_|_|i<;>first|rfl|exact absurd hi (by simp;done)|(simp at hi;omega))|refine⟨?_,?_⟩))))
     refine XL.e ?_
     refine XK.c ?_ ?_<;>intro hb
     ·have hb:(st T1).2=true:=by simpa using hb
      obtain⟨r',hr'⟩:=hpre
      have hlast:=hSi hb r'
      rw[mvT_all hd,hr',hlast,if_neg (show ¬(st T1).2=false by rw[hb];simp)]
      refine XK.w ?_
      refine XK.t [0,1,2,3,4,5,6,7,8,9] ?_ ?_
      ·exact frI
      ·exact frI
     ·have hb:(st T1).2=false:=by simpa using hb
      rw[if_pos hb]
      refine XK.w ?_
      refine XK.inv ⟨i+1,⟨hlt,by rw[hT1];exact hb⟩,?_,by omega⟩
      rw[hT1]
      exact(Weak.of hN rfl rfl rfl frI frI)
  ·have hie:i=k.acts.length:=by omega
   subst hie
   rw[mvT_all hd,if_pos hst]
   refine XK.w ?_
   refine XK.t [0,1,2,3,4,5,6,7,8,9] ?_ ?_
   ·exact frI
   ·exact frI
theorem moves_ok (k:K) (p:Int) (x:Ps):Does Tryz.prog 87 [kV k,.c (.int .i64 p),psV x] (.fn (.func 131) [] [.rptr (psC x),.rptr (kC k),.rptr [.c (.int .i64 p)]]):=by
 refine Does.mk (fun _=>false) TT_ok Tryz.func87 rfl (by kernel_rfl) Tryz.ntmps87 rfl rfl fun E hT hE hN hR=>?_
 have hm:=mixO hE
 refine XK.w ?_
 refine XK.weak (Weak.trans (Weak.frozenC (k:=3) hN rfl rfl rfl) (Weak.trans (Weak.frozenC (k:=4) hN rfl rfl rfl) (Weak.frozenC (k:=5) hN rfl rfl rfl))) ?_
 refine XK.q ?_
 rfl
end
end Go.Proofs.YtgpkkllbejgmlaaGreatDoor
