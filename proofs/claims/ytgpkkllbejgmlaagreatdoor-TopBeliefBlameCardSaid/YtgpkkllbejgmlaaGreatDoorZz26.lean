import Derived.Test.YtgpkkllbejgmlaaGreatDoorZz14
import Derived.Test.YtgpkkllbejgmlaaGreatDoorZz25
set_option linter.unusedSimpArgs false
set_option linter.unusedVariables false
set_option maxRecDepth 10000
namespace Go.Proofs.YtgpkkllbejgmlaaGreatDoor
section
open Go.Eng Go.RowKit Go.Lib Go.Sort
theorem jn1 (z:Int):jnE [z]=itoa z:=by simp[jnE,cutL]
theorem wrN1_ok (z:Int) (hz:inK .i64 z):DoesM Tryz.prog 111 [.c (.slice none 0 0),intsV [z]] [] (.vec 0 0) [bO 0 (itoa z)]:=by
 have h:=wrN_ok [z] (fun x hx=>by rw[List.mem_singleton.1 hx];exact hz) (by simp)
 rwa[jn1] at h
theorem wr1_ok (z:Int) (hz:inK .i64 z) (L:List UInt8) (hL:L.length≤800000):DoesM Tryz.prog 111 [.vec 0 0,intsV [z]] [bO 0 L] (.vec 0 2) [bO 2 (L++itoa z)]:=by
 have h:=wr_ok [z] (fun x hx=>by rw[List.mem_singleton.1 hx];exact hz) (by simp) L hL
 rwa[jn1] at h
theorem encode_ok (s:St) (hs:TxOk s):Does Tryz.prog 69 [stV s] (.c (.string ⟨(encT s).toArray⟩)):=by
 have hw:=hs.day
 have n1:=hs.nh
 have n2:=hs.nu
 have n3:=hs.nm
 have hh:=hs.hold
 have hmk:=hs.mark
 clear hs
 have l0:(itoa s.day).length≤21:=itoa_short hw
 have l1:∀i,(cutL hdE (s.holders.take i)).length≤2200:=fun i=>by
  refine Nat.le_trans (cutL_len hdE 22 _ fun z hz=>?_) (by rw[List.length_take];omega)
  obtain⟨j,hj,rfl⟩:=List.getElem_of_mem (List.mem_of_mem_take hz)
  have:=hh j hj
  rw[List.getD_eq_getElem?_getD,List.getElem?_eq_getElem hj] at this
  have:=itoa_short this
  simp[hdE];simpa using this
 have l2:∀i,(cutL usE (s.used.take i)).length≤2200:=fun i=>by
  refine Nat.le_trans (cutL_len usE 22 _ fun b _=>?_) (by rw[List.length_take];omega)
  simp[usE]
 have l3:∀i,(cutL mkE (s.marks.take i)).length≤44000:=fun i=>by
  refine Nat.le_trans (cutL_len mkE 110 _ fun m hm=>?_) (by rw[List.length_take];omega)
  obtain⟨j,hj,rfl⟩:=List.getElem_of_mem (List.mem_of_mem_take hm)
  have:=hmk j hj
  rw[List.getD_eq_getElem?_getD,List.getElem?_eq_getElem hj] at this
  obtain⟨a,b,c,d⟩:=this
  have:=itoa_short a
  have:=itoa_short b
  have:=itoa_short c
  have:=itoa_short d
  simp only[Option.getD_some] at*
  have e:((if(s.marks[j]).paused=true then[112,44] else[44]:List UInt8)).length≤2:=by split<;>simp
  simp only[mkE,List.length_append,List.length_cons]
  omega
 refine Does.mk (fun _=>false) TT_ok Tryz.func69 rfl (by kernel_rfl) Tryz.ntmps69 rfl rfl fun E hT hE hN hR=>?_
 have hm:=mixO hE
 refine XK.w ?_
 refine XK.r ?_
 refine XL.callMA [900] hE rfl rfl rfl rfl trivial (wrN1_ok s.day hw) rfl rfl rfl rfl rfl ?_
 refine XL.e ?_
 have hsm:∀L:List UInt8,∀i,i<L.length+1→byC ((L++[59]).getD i 0)=catF L.length (fun i=>byC (L.getD i 0)) (rowOf [.c (.int .u8 59)] 1) i:=fun L=>by_app1 L 59 _ rfl
 have tk:∀i,i<(s.holders).length→itoa s.day++[59]++cutL hdE (s.holders.take (i+1))=itoa s.day++[59]++cutL hdE (s.holders.take i)++hdE (s.holders.getD i default):=fun i h=>by rw[cutL_succ _ _ _ h];simp only[List.append_assoc]
 refine XK.w ?_
 refine XK.loop (ι:=Nat) (fun i=>ST.of [(1,.ptr 1 0),(3,.vec 900 0),(17,intsV s.holders),(18,.c (.int .i64 (s.holders.length:Nat))),(19,.c (.int .i64 i))] [(1,.cells 44 (stC s)),(900,bO 0 (itoa s.day++[59]++cutL hdE (s.holders.take i)))] 1000 80 (fun _=>false))
  (fun i=>i≤s.holders.length) (fun i=>s.holders.length-i) 0 (Nat.zero_le _) (by rw[List.take_zero,show cutL hdE []=[] from rfl,List.append_nil];exact(by unfold bO;rw[List.length_append (bs:=[59])];exact Weak.trans (Weak.stamp (k:=900) (t:=0) hN rfl rfl) (Weak.of hN rfl rfl rfl frV (by(repeat' (first|exact rfl|exact AvIs.refl _|exact trivial|exact fun _ _=>rfl|exact fun _ _=>⟨rfl,AvIs.refl _⟩|exact cI (by omega)|exact(hsm (itoa s.day))|refine⟨?_,?_⟩)))))) fun i hi=>?_
 refine XK.c ?_ ?_<;>intro hlt<;>try simp at hlt
 ·have fx:s.holders.getD (i:Int).toNat default=s.holders.getD i default:=rfl
  have hL:(itoa s.day++[59]++cutL hdE (s.holders.take i)).length≤700000:=by have:=l1 s.holders.length;have:=l1 i;have:=l2 i;have:=l2 s.used.length;have:=l3 i;simp only[List.length_append,List.length_cons,List.length_nil,List.take_length] at*;omega
  have tki:=tk i hlt
  generalize hLL:itoa s.day++[59]++cutL hdE (s.holders.take i)=LL at*
  have hz:=hh i hlt
  refine XK.w ?_
  rw[fx]
  generalize s.holders.getD i default=z at*
  have hj:=itoa_short hz
  refine XK.r ?_
  refine XL.callMA [900] hE rfl rfl rfl rfl trivial (wr1_ok z hz (LL) (by omega)) rfl rfl rfl rfl rfl ?_
  refine XL.e ?_
  have hb:=by_app1 (LL++itoa z) 44 (rowOf [.c (.int .u8 44)] 1) rfl
  refine XK.inv ⟨i+1,hlt,?_,by omega⟩
  rw[tki,show hdE z=itoa z++[44] from rfl,←List.append_assoc]
  refine Weak.trans (Weak.stamp (k:=900) (t:=0) hN rfl rfl) (Weak.of hN rfl rfl rfl frV ?_)
  unfold bO
  rw[List.length_append (bs:=[44])]
  (repeat' (first|exact rfl|exact AvIs.refl _|exact trivial|exact fun _ _=>rfl|exact fun _ _=>⟨rfl,AvIs.refl _⟩|exact cI (by omega)|exact(hb)|refine⟨?_,?_⟩))
 have hie:i=s.holders.length:=by omega
 subst hie
 rw[List.take_length]
 clear hlt hi tk
 have hb2:(itoa s.day++[59]++cutL hdE s.holders).length≤100000:=by have:=l1 s.holders.length;simp only[List.length_append,List.length_cons,List.length_nil,List.take_length] at*;omega
 generalize hQ2:itoa s.day++[59]++cutL hdE s.holders=Q2 at*
 have tk:∀i,i<(s.used).length→Q2++[59]++cutL usE (s.used.take (i+1))=Q2++[59]++cutL usE (s.used.take i)++usE (s.used.getD i default):=fun i h=>by rw[cutL_succ _ _ _ h];simp only[List.append_assoc]
 refine XK.w ?_
 refine XK.loop (ι:=Nat) (fun i=>ST.of [(1,.ptr 1 0),(3,.vec 900 0),(34,boolsV s.used),(35,.c (.int .i64 (s.used.length:Nat))),(36,.c (.int .i64 i))] [(1,.cells 44 (stC s)),(900,bO 0 (Q2++[59]++cutL usE (s.used.take i)))] 1000 80 (fun _=>false))
  (fun i=>i≤s.used.length) (fun i=>s.used.length-i) 0 (Nat.zero_le _) (by rw[List.take_zero,show cutL usE []=[] from rfl,List.append_nil];exact(by unfold bO;rw[List.length_append (bs:=[59])];exact Weak.trans (Weak.stamp (k:=900) (t:=0) hN rfl rfl) (Weak.of hN rfl rfl rfl frV (by(repeat' (first|exact rfl|exact AvIs.refl _|exact trivial|exact fun _ _=>rfl|exact fun _ _=>⟨rfl,AvIs.refl _⟩|exact cI (by omega)|exact(hsm (Q2))|refine⟨?_,?_⟩)))))) fun i hi=>?_
 refine XK.c ?_ ?_<;>intro hlt<;>try simp at hlt
 ·have fx:s.used.getD (i:Int).toNat default=s.used.getD i default:=rfl
  have hL:(Q2++[59]++cutL usE (s.used.take i)).length≤700000:=by have:=l1 s.holders.length;have:=l1 i;have:=l2 i;have:=l2 s.used.length;have:=l3 i;simp only[List.length_append,List.length_cons,List.length_nil,List.take_length] at*;omega
  have tki:=tk i hlt
  generalize hLL:Q2++[59]++cutL usE (s.used.take i)=LL at*
  refine XK.w ?_
  rw[fx]
  generalize s.used.getD i default=z at*
  refine XK.c ?_ ?_<;>intro h1<;>try simp at h1
  ·subst h1
   have hb:=by_app1 (LL) 49 (rowOf [.c (.int .u8 49)] 1) rfl
   refine XK.w ?_
   refine XK.inv ⟨i+1,hlt,?_,by omega⟩
   rw[tki,show usE true=[49] from rfl]
   refine Weak.trans (Weak.stamp (k:=900) (t:=0) hN rfl rfl) (Weak.of hN rfl rfl rfl frV ?_)
   unfold bO
   rw[List.length_append (bs:=[49])]
   (repeat' (first|exact rfl|exact AvIs.refl _|exact trivial|exact fun _ _=>rfl|exact fun _ _=>⟨rfl,AvIs.refl _⟩|exact cI (by omega)|exact(hb)|refine⟨?_,?_⟩))
  ·subst h1
   have hb:=by_app1 (LL) 48 (rowOf [.c (.int .u8 48)] 1) rfl
   refine XK.w ?_
   refine XK.inv ⟨i+1,hlt,?_,by omega⟩
   rw[tki,show usE false=[48] from rfl]
   refine Weak.trans (Weak.stamp (k:=900) (t:=0) hN rfl rfl) (Weak.of hN rfl rfl rfl frV ?_)
   unfold bO
   rw[List.length_append (bs:=[48])]
   (repeat' (first|exact rfl|exact AvIs.refl _|exact trivial|exact fun _ _=>rfl|exact fun _ _=>⟨rfl,AvIs.refl _⟩|exact cI (by omega)|exact(hb)|refine⟨?_,?_⟩))
 have hie:i=s.used.length:=by omega
 subst hie
 rw[List.take_length]
 clear hlt hi tk
 have hb4:(Q2++[59]++cutL usE s.used).length≤200000:=by have:=l2 s.used.length;simp only[List.length_append,List.length_cons,List.length_nil,List.take_length] at*;omega
 generalize hQ4:Q2++[59]++cutL usE s.used=Q4 at*
 have tk:∀i,i<(s.marks).length→Q4++[59]++cutL mkE (s.marks.take (i+1))=Q4++[59]++cutL mkE (s.marks.take i)++mkE (s.marks.getD i default):=fun i h=>by rw[cutL_succ _ _ _ h];simp only[List.append_assoc]
 refine XK.w ?_
 refine XK.loop (ι:=Nat) (fun i=>ST.of [(1,.ptr 1 0),(3,.vec 900 0),(52,rowL mkC 5 s.marks),(53,.c (.int .i64 (s.marks.length:Nat))),(54,.c (.int .i64 i))] [(1,.cells 44 (stC s)),(900,bO 0 (Q4++[59]++cutL mkE (s.marks.take i)))] 1000 80 (fun _=>false))
  (fun i=>i≤s.marks.length) (fun i=>s.marks.length-i) 0 (Nat.zero_le _) (by rw[List.take_zero,show cutL mkE []=[] from rfl,List.append_nil];exact(by unfold bO;rw[List.length_append (bs:=[59])];exact Weak.trans (Weak.stamp (k:=900) (t:=0) hN rfl rfl) (Weak.of hN rfl rfl rfl frV (by(repeat' (first|exact rfl|exact AvIs.refl _|exact trivial|exact fun _ _=>rfl|exact fun _ _=>⟨rfl,AvIs.refl _⟩|exact cI (by omega)|exact(hsm (Q4))|refine⟨?_,?_⟩)))))) fun i hi=>?_
 refine XK.c ?_ ?_<;>intro hlt<;>try simp at hlt
 ·have fx:s.marks.getD (i:Int).toNat default=s.marks.getD i default:=rfl
  have hL:(Q4++[59]++cutL mkE (s.marks.take i)).length≤700000:=by have:=l1 s.holders.length;have:=l1 i;have:=l2 i;have:=l2 s.used.length;have:=l3 i;simp only[List.length_append,List.length_cons,List.length_nil,List.take_length] at*;omega
  have tki:=tk i hlt
  generalize hLL:Q4++[59]++cutL mkE (s.marks.take i)=LL at*
  have hz:=hmk i hlt
  refine XK.w ?_
  rw[fx]
  generalize s.marks.getD i default=m at*
  obtain⟨w1,w2,w3,w4⟩:=hz
  have q:=jnE_len (l:=[m.status,m.left,m.got,m.bearer]) (fun x hx=>by simp only[List.mem_cons,List.not_mem_nil,or_false] at hx;rcases hx with rfl|rfl|rfl|rfl<;>assumption)
  refine XK.r ?_
  refine XL.callMA [900] hE rfl rfl rfl rfl trivial (wr_ok [m.status,m.left,m.got,m.bearer] (fun x hx=>by simp only[List.mem_cons,List.not_mem_nil,or_false] at hx;rcases hx with rfl|rfl|rfl|rfl<;>assumption) (by simp) (LL) (by omega)) rfl rfl rfl rfl rfl ?_
  refine XL.e ?_
  refine XK.weak (Weak.trans (Weak.stamp (k:=900) (t:=0) hN rfl rfl) (Weak.of (L:=[(1,.ptr 1 0),(3,.vec 900 0),(52,rowL mkC 5 s.marks),(53,.c (.int .i64 (s.marks.length:Nat))),(54,.c (.int .i64 i)),(9,.ptr 1089 0),(70,.c (.bool m.paused))]) (O:=[(1,.cells 44 (stC s)),(900,bO 0 (LL++jnE [m.status,m.left,m.got,m.bearer])),(1089,.cells 56 (mkC m))]) (nx:=3000) (nt:=80) (md:=fun _=>false) hN rfl rfl rfl frI frI)) ?_
  have hmE:mkE m=jnE [m.status,m.left,m.got,m.bearer]++(if m.paused=true then[112,44] else[44]):=by simp[mkE,jnE,cutL]
  have q:(jnE [m.status,m.left,m.got,m.bearer]).length≤88:=q
  generalize jnE [m.status,m.left,m.got,m.bearer]=J at*
  cases hpa:m.paused with
  |true=>
   rw[hpa,if_pos rfl] at hmE
   refine XK.cond (b:=true) (by rw[←hpa];rfl) (fun _=>?_) (fun h=>by cases h)
   have hb1:=by_app1 (LL++J) 112 (rowOf [.c (.int .u8 112)] 1) rfl
   (first|refine XK.n ?_|refine XK.a ?_|refine XK.b ?_)
   refine XK.weak (Weak.trans (Weak.stamp (k:=900) (t:=0) hN rfl rfl) (Weak.of (L:=[(1,.ptr 1 0),(3,.vec 900 0),(52,rowL mkC 5 s.marks),(53,.c (.int .i64 (s.marks.length:Nat))),(54,.c (.int .i64 i))]) (O:=[(1,.cells 44 (stC s)),(900,bO 0 (LL++J++[112]))]) (nx:=4000) (nt:=80) (md:=fun _=>false) hN rfl rfl rfl frI (by unfold bO;rw[List.length_append (bs:=[112])];(repeat' (first|exact rfl|exact AvIs.refl _|exact trivial|exact fun _ _=>rfl|exact fun _ _=>⟨rfl,AvIs.refl _⟩|exact cI (by omega)|exact(hb1)|refine⟨?_,?_⟩))))) ?_
   have hb2:=by_app1 (LL++J++[112]) 44 (rowOf [.c (.int .u8 44)] 1) rfl
   refine XK.w ?_
   refine XK.inv ⟨i+1,hlt,?_,by omega⟩
   rw[tki,hmE,show([112,44]:List UInt8)=[112]++[44] from rfl]
   simp only[←List.append_assoc]
   refine Weak.trans (Weak.stamp (k:=900) (t:=0) hN rfl rfl) (Weak.of hN rfl rfl rfl frV ?_)
   unfold bO
   rw[List.length_append (bs:=[44])]
   (repeat' (first|exact rfl|exact AvIs.refl _|exact trivial|exact fun _ _=>rfl|exact fun _ _=>⟨rfl,AvIs.refl _⟩|exact cI (by omega)|exact(hb2)|refine⟨?_,?_⟩))
  |false=>
   rw[hpa,if_neg (by simp)] at hmE
   refine XK.cond (b:=false) (by rw[←hpa];rfl) (fun h=>by cases h) (fun _=>?_)
   have hb2:=by_app1 (LL++J) 44 (rowOf [.c (.int .u8 44)] 1) rfl
   refine XK.w ?_
   refine XK.inv ⟨i+1,hlt,?_,by omega⟩
   rw[tki,hmE]
   simp only[←List.append_assoc]
   refine Weak.trans (Weak.stamp (k:=900) (t:=0) hN rfl rfl) (Weak.of hN rfl rfl rfl frV ?_)
   unfold bO
   rw[List.length_append (bs:=[44])]
   (repeat' (first|exact rfl|exact AvIs.refl _|exact trivial|exact fun _ _=>rfl|exact fun _ _=>⟨rfl,AvIs.refl _⟩|exact cI (by omega)|exact(hb2)|refine⟨?_,?_⟩))
 have hie:i=s.marks.length:=by omega
 subst hie
 rw[List.take_length]
 clear hlt hi tk
 refine XK.weak (Weak.frozen (k:=900) hN rfl rfl) ?_
 refine XK.w ?_
 refine XK.q ?_
 rw[bytesS_row,←hQ4,←hQ2]
 unfold encT
 simp
end
section
open Go.Eng Go.RowKit Go.Lib Go.Sort
theorem encT_len {s:St} (hs:TxOk s):(encT s).length≤100000:=by
 have hw:=hs.day
 have n1:=hs.nh
 have n2:=hs.nu
 have n3:=hs.nm
 have hh:=hs.hold
 have hmk:=hs.mark
 clear hs
 have l0:(itoa s.day).length≤21:=itoa_short hw
 have l1:(cutL hdE s.holders).length≤22*s.holders.length:=cutL_len hdE 22 _ fun z hz=>by
  obtain⟨j,hj,rfl⟩:=List.getElem_of_mem hz
  have:=hh j hj
  rw[List.getD_eq_getElem?_getD,List.getElem?_eq_getElem hj] at this
  have:=itoa_short this
  simp[hdE];simpa using this
 have l2:(cutL usE s.used).length≤22*s.used.length:=cutL_len usE 22 _ fun b _=>by simp[usE]
 have l3:(cutL mkE s.marks).length≤110*s.marks.length:=cutL_len mkE 110 _ fun m hm=>by
  obtain⟨j,hj,rfl⟩:=List.getElem_of_mem hm
  have:=hmk j hj
  rw[List.getD_eq_getElem?_getD,List.getElem?_eq_getElem hj] at this
  obtain⟨a,b,c,d⟩:=this
  have:=itoa_short a
  have:=itoa_short b
  have:=itoa_short c
  have:=itoa_short d
  simp only[Option.getD_some] at*
  have e:((if(s.marks[j]).paused=true then[112,44] else[44]:List UInt8)).length≤2:=by split<;>simp
  simp only[mkE,List.length_append,List.length_cons]
  omega
 simp only[encT,List.length_append,List.length_cons]
 omega
theorem keysC_ok (l:List St):DoesM Tryz.prog 71 [.mp 0] [mbO l] (.fn (.func 114) [] [.ptr 1 0]) [mbO l,.cells 142 [.mp 0]]:=by
 refine DoesM.mk (fun _=>false) 100 TT_ok Tryz.func71 rfl (by kernel_rfl) Tryz.ntmps71 rfl rfl rfl fun E hT hE hN hR=>?_
 have hm:=mixO hE
 refine XK.w ?_
 refine XK.t [0,101] ?_ ?_
 ·exact frI
 ·exact frI
theorem sortedC_ok (l:List St) (hn:(l.map encT).Nodup) (hl:∀s∈l,TxOk s) (hlen:l.length≤1000000):
  DoesM Tryz.prog 70 [.fn (.func 114) [] [.ptr 1 0]] [mbO l,.cells 142 [.mp 0]] (.vec 2 0)
   [mbO l,.cells 142 [.mp 0],.vec 9 1 0 (txL l).length (fun i=>[.c (encStr ((txL l).getD i []))])]:=by
 have h:=sortedKeys_ok (zv:=zSv) (dm:=mpD l) (f:=fun u=>stV (getS l u)) (l.map encT) hn (fun t ht=>by
  obtain⟨s,hs,rfl⟩:=List.mem_map.1 ht
  have:=encT_len (hl s hs)
  simp only[maxLen];omega) (by simpa using hlen) (fun v hv=>by
  cases v<;>simp[KK.has,LK.has] at hv
  rename_i b
  have e:Value.string b=encStr b.data.toList:=by simp[encStr]
  rw[e,mpD_iff]
  exact⟨fun h=>⟨_,h,rfl⟩,fun⟨t,ht,h⟩=>by rw[encStr_inj h];exact ht⟩)
 rw[sortB_merge] at h
 have e:(l.map encT).length=(txL l).length:=(sortB_len _).symm
 rw[e] at h
 exact h
theorem mpD_enc (l:List St) (s:St):mpD l (encV s)=decide (encT s∈l.map encT):=by
 rw[Bool.eq_iff_iff,decide_eq_true_iff]
 exact mpD_iff l (encT s)
theorem getS_cons (x:St) (l:List St) (u:Value):AvIs (bif keyEq u (encV x) then stV x else stV (getS l u)) (stV (getS (x::l) u)):=by
 rw[getS]
 cases keyEq u (encV x)<;>exact AvIs.refl _
theorem meet_ok (c:Cs) (s:St) (hs:TxOk s):DoesM Tryz.prog 68 [stV s,.ptr 0 0,.ptr 1 0] [.cells 142 [.mp 2],.cells 142 [.mp 3],mbO c.1,mbO c.2] (.tup [])
  [.cells 142 [.mp 2],.cells 142 [.mp 3],mbO (meetC c s).1,mbO (meetC c s).2]:=by
 have he:=encode_ok s hs
 refine DoesM.mk (fun _=>false) 100 TT_ok Tryz.func68 rfl (by kernel_rfl) Tryz.ntmps68 rfl rfl rfl fun E hT hE hN hR=>?_
 have hm:=mixO hE
 refine XK.w ?_
 refine XK.r ?_
 refine XL.callLA hE rfl rfl rfl rfl trivial rfl (he) rfl ?_
 refine XL.e ?_
 have hmp:=mpD_enc c.1 s
 refine XK.c ?_ ?_<;>intro h1
 ·have h1:mpD c.1 (encV s)=false:=by have:=h1;simp at this;exact this
  have hme:meetC c s=(s::c.1,s::c.2):=by
   unfold meetC
   rw[h1] at hmp
   rw[if_neg (fun q=>by rw[decide_eq_true q] at hmp;cases hmp)]
  rw[hme]
  refine XK.w ?_
  refine XK.t [0,1,2,3] ?_ ?_
  ·refine⟨frI,frI,⟨rfl,rfl,fun z hz=>⟨rfl,getS_cons s c.1 z⟩⟩,⟨rfl,rfl,fun z hz=>⟨rfl,getS_cons s c.2 z⟩⟩⟩
  ·exact frI
 ·have h1:mpD c.1 (encV s)=true:=by have:=h1;simp at this;exact this
  have hme:meetC c s=c:=by
   unfold meetC
   rw[h1] at hmp
   rw[if_pos (of_decide_eq_true hmp.symm)]
  rw[hme]
  refine XK.w ?_
  refine XK.t [0,1,2,3] ?_ ?_
  ·exact frI
  ·exact frI
end
section
open Go.Eng Go.RowKit Go.Lib Go.Sort
theorem foldl_take {α β:Type} [Inhabited α] (f:β→α→β) (c:β) {l:List α} {i:Nat} (h:i<l.length):(l.take (i+1)).foldl f c=f ((l.take i).foldl f c) (l.getD i default):=by
 rw[List.take_add_one,List.getElem?_eq_getElem h,List.foldl_append,List.getD_eq_getElem?_getD,List.getElem?_eq_getElem h];rfl
theorem mp_dom {l:List St} (hn:(l.map encT).Nodup):MapDom .str (mpD l) (l.map encV):=by
 refine⟨?_,fun v hv=>?_,fun v hv=>?_⟩
 ·have:l.map encV=(l.map encT).map encStr:=by rw[List.map_map];rfl
  rw[this]
  exact List.Pairwise.map _ (fun a b h e=>h (encStr_inj e)) hn
 ·obtain⟨s,_,rfl⟩:=List.mem_map.1 hv
  rfl
 ·cases v<;>simp[KK.has,LK.has] at hv
  rename_i b
  have e:Value.string b=encStr b.data.toList:=by simp[encStr]
  rw[e,mpD_iff]
  constructor
  ·intro h
   obtain⟨s,hs,h2⟩:=List.mem_map.1 h
   exact List.mem_map.2 ⟨s,hs,by rw[encV,h2]⟩
  ·intro h
   obtain⟨s,hs,h2⟩:=List.mem_map.1 h
   exact List.mem_map.2 ⟨s,hs,encStr_inj h2⟩
theorem getS_zero (w:World) (G:Nat→Prop):R w G Rho.none (stV zS) zSv:=by
 refine .agg rfl fun i a h=>?_
 match i with
 |0=>injection h with h;subst h;exact .c
 |1=>injection h with h;subst h;exact .rs (fun _ _=>undef) (Nat.le_refl _) (Nat.zero_le _) (fun h0=>absurd h0 (Nat.lt_irrefl _)) (fun i hi=>absurd hi (Nat.not_lt_zero _)) (fun i j x hi=>absurd hi (Nat.not_lt_zero _))
 |2=>injection h with h;subst h;exact .rs (fun _ _=>undef) (Nat.le_refl _) (Nat.zero_le _) (fun h0=>absurd h0 (Nat.lt_irrefl _)) (fun i hi=>absurd hi (Nat.not_lt_zero _)) (fun i j x hi=>absurd hi (Nat.not_lt_zero _))
 |3=>injection h with h;subst h;exact .rs (fun _ _=>undef) (Nat.le_refl _) (Nat.zero_le _) (fun h0=>absurd h0 (Nat.lt_irrefl _)) (fun i hi=>absurd hi (Nat.not_lt_zero _)) (fun i j x hi=>absurd hi (Nat.not_lt_zero _))
 |i+4=>simp[stC] at h
theorem mpD_del (l:List St) (t:List UInt8) (u:Value) (hu:KK.str.has u=true):mpD (l.filter fun y=>!(encT y==t)) u=(!keyEq u (encStr t)&&mpD l u):=by
 cases u<;>simp[KK.has,LK.has] at hu
 rename_i b
 have e:Value.string b=encStr b.data.toList:=by simp[encStr]
 rw[e,keyEq_enc,Bool.eq_iff_iff,Bool.and_eq_true,mpD_iff,mpD_iff]
 constructor
 ·intro h
  obtain⟨y,hy,h2⟩:=List.mem_map.1 h
  obtain⟨h3,h4⟩:=List.mem_filter.1 hy
  refine⟨?_,List.mem_map.2 ⟨y,h3,h2⟩⟩
  rw[←h2];simpa using h4
 ·rintro⟨h1,h⟩
  obtain⟨y,hy,h2⟩:=List.mem_map.1 h
  exact List.mem_map.2 ⟨y,List.mem_filter.2 ⟨hy,by rw[h2];simpa using h1⟩,h2⟩
theorem getS_del (l:List St) (t:List UInt8) (u:Value) (hu:KK.str.has u=true):AvIs (bif keyEq u (encStr t) then stV zS else stV (getS l u)) (stV (getS (l.filter fun y=>!(encT y==t)) u)):=by
 cases u<;>simp[KK.has,LK.has] at hu
 rename_i b
 have e:Value.string b=encStr b.data.toList:=by simp[encStr]
 rw[e,keyEq_enc]
 have key:getS (l.filter fun y=>!(encT y==t)) (encStr b.data.toList)=bif b.data.toList==t then zS else getS l (encStr b.data.toList):=by
  induction l with
  |nil=>cases (b.data.toList==t)<;>rfl
  |cons x l ih=>
   by_cases hx:encT x=t
   ·rw[List.filter_cons_of_neg (by simp[hx]),ih,getS,encV,keyEq_enc,hx]
    cases (b.data.toList==t)<;>rfl
   ·rw[List.filter_cons_of_pos (by simp[hx]),getS,getS,ih,encV,keyEq_enc]
    cases h1:b.data.toList==encT x
    ·rfl
    ·have:b.data.toList=encT x:=by simpa using h1
     have h2:(b.data.toList==t)=false:=by rw[this];simpa using hx
     rw[h2];rfl
 rw[key]
 cases (b.data.toList==t)<;>exact AvIs.refl _
theorem zS_is:AvS (zeroAV ty44) (stV zS):=AvS.agg ⟨AvS.refl _,AvS.nil,AvS.nil,AvS.nil,trivial⟩
theorem _root_.Go.Eng.Weak.mapS {E:Env} {st:ST} (k:Nat) {kk:KK} {zv:Value} {d:Value→Bool} {f f':Value→AV} (hk:st.ob k=some (.mapb kk zv d f)) (h:∀v,kk.has v=true→AvS (f v) (f' v)):Weak E st {st with ob:=upd st.ob k (some (.mapb kk zv d f'))}:=by
 rintro a w ⟨ρ,hs⟩
 refine⟨ρ,hs.keep,hs.tsz,hs.dfr,hs.gl,hs.fr,fun j o ho=>?_,fun j ho=>?_,hs.dis,hs.own,hs.le⟩
 ·by_cases hj:j=k
  ·subst hj
   replace ho:upd st.ob j _ j=some o:=ho
   rw[upd_same] at ho
   injection ho with ho
   subst ho
   obtain⟨g,es,clock,h1,h2,h3,h4⟩:=hs.ob j _ hk
   exact⟨g,es,clock,h1,h2,h3,fun v hv=>by
    obtain⟨r,r1,r2,r3⟩:=h4 v hv
    exact⟨r,r1,r2,h v hv _ _ _ _ r3⟩⟩
  ·replace ho:upd st.ob k _ j=some o:=ho
   rw[upd_other _ _ hj] at ho
   exact hs.ob j o ho
 ·by_cases hj:j=k
  ·subst hj
   replace ho:upd st.ob j _ j=none:=ho
   rw[upd_same] at ho
   cases ho
  ·replace ho:upd st.ob k _ j=none:=ho
   rw[upd_other _ _ hj] at ho
   exact hs.no j ho
theorem row_snocD {α:Type} [Inhabited α] (f:α→List AV) (L:List α) (x:α) (h:Nat→List AV) (hx:h 0=f x):∀j,j<L.length+1→f ((L++[x]).getD j default)=catF L.length (fun i=>f (L.getD i default)) h j:=by
 intro j hj
 unfold catF
 by_cases h1:j<L.length
 ·rw[blt_yes h1,cond_true]
  simp[List.getD,List.getElem?_append_left h1]
 ·have e:j=L.length:=by omega
  rw[blt_no (show L.length≤j by omega),cond_false,e,Nat.sub_self,hx]
  simp[List.getD]
def stO (s:Nat) (L:List St):Ob:=.vec 44 4 s L.length (fun j=>stC (L.getD j default))
def cmO (c:Cs):List (Nat×Ob):=[(115,.cells 142 [.mp 131]),(116,.cells 142 [.mp 132]),(131,mbO c.1),(132,mbO c.2)]
theorem closure_ok (k:K) (hF:KFacts k) (hv:(kValid k).1=0) (p:Int) (l:List St) (hl:∀s∈l,validS k s=true) (hll:l.length≤1000):
  Does Tryz.prog 43 [kV k,.c (.int .i64 p),stsL l] (.tup [stsL (closR k p l).1,.c (.int .i64 (closR k p l).2)]):=by
 have hk:=hF.w
 have hgB:=beg_ok (k:=k) (p:=p) l ([],[]) hl (GC.nil k) (fun s hs=>by cases hs)
 refine Does.mk (fun _=>false) TT_ok Tryz.func43 rfl (by kernel_rfl) Tryz.ntmps43 rfl rfl fun E hT hE hN hR=>?_
 have hm:=mixO hE
 refine XK.w ?_
 refine XK.loop (ι:=Nat) (fun i=>ST.of [(1,.c (.int .i64 p)),(3,.ptr 3 0),(8,.ptr 115 0),(9,.ptr 116 0),(10,.fn (.func 68) [] [.ptr 115 0,.ptr 116 0]),(27,stsL l),(28,.c (.int .i64 l.length)),(29,.c (.int .i64 i))]
   ((3,.cells 27 (kC k))::cmO ((l.take i).foldl meetC ([],[]))) 1000 107 (fun _=>false))
  (fun i=>i≤l.length) (fun i=>l.length-i) 0 (Nat.zero_le _) (Weak.trans (Weak.mapS 131 (f':=fun u=>stV (getS [] u)) rfl fun v _=>zS_is) (Weak.trans (Weak.mapS 132 (f':=fun u=>stV (getS [] u)) rfl fun v _=>zS_is) (Weak.of hN rfl rfl rfl frV (by(repeat' (first|exact rfl|exact AvIs.refl _|exact trivial|exact fun _ _=>rfl|exact fun _ _=>⟨rfl,AvIs.refl _⟩|exact cI (by omega)|exact(fun _ _=>⟨rfl,AvIs.refl _⟩)|refine⟨?_,?_⟩)))))) fun i hi=>?_
 refine XK.c ?_ ?_<;>intro hlt<;>try simp at hlt
 ·have hlt:i<l.length:=by omega
  have hfl:=foldl_take meetC ([],[]) hlt
  have hsv:TxOk (l.getD i default):=txOk_of hk (hl _ (by rw[List.getD_eq_getElem?_getD,List.getElem?_eq_getElem hlt];exact List.getElem_mem hlt))
  have fx:l.getD (i:Int).toNat default=l.getD i default:=rfl
  have hme:=meet_ok ((l.take i).foldl meetC ([],[])) _ hsv
  rw[←hfl] at hme
  generalize (l.take i).foldl meetC ([],[])=c at*
  generalize hd:(l.take (i+1)).foldl meetC ([],[])=d at*
  refine XK.w ?_
  rw[fx]
  generalize l.getD i default=s at*
  refine XK.r ?_
  refine XL.callMA [115,116,131,132] hE rfl rfl rfl rfl trivial (hme) rfl rfl rfl rfl rfl ?_
  refine XL.e ?_
  refine XK.inv ⟨i+1,hlt,?_,by omega⟩
  rw[hd]
  exact Weak.of hN rfl rfl rfl frV (by(repeat' (first|exact rfl|exact AvIs.refl _|exact trivial|exact fun _ _=>rfl|exact fun _ _=>⟨rfl,AvIs.refl _⟩|exact cI (by omega)|exact(fun _ _=>⟨rfl,AvIs.refl _⟩)|refine⟨?_,?_⟩)))
 have hie:i=l.length:=by omega
 subst hie
 rw[List.take_length]
 clear hlt hi
 obtain⟨hgc,-,-,-⟩:=hgB
 have hfin:closR k p l=if(outC k p (begC l) 400).2=true∨300<(outC k p (begC l) 400).1.1.length then([],3) else((txL (outC k p (begC l) 400).1.1).map fun t=>getS (outC k p (begC l) 400).1.1 (encStr t),0):=rfl
 have hend:=fin_end (p:=p) hk hgc
 rw[hfin]
 clear hfin
 have hbc:begC l=l.foldl meetC ([],[]):=rfl
 have hbl:=beg_len l ([],[])
 rw[←hbc] at hgc hend hbl ⊢
 generalize begC l=c0 at*
 clear hbc
 refine XK.w ?_
 have hVT:∀c:Cs,GC k c→∀s∈c.1,TxOk s:=fun c h s hs=>txOk_of hk (h.valid s hs)
 refine XK.loop (ι:=Nat) (fun n=>ST.of [(1,.c (.int .i64 p)),(3,.ptr 3 0),(8,.ptr 115 0),(9,.ptr 116 0),(10,.fn (.func 68) [] [.ptr 115 0,.ptr 116 0]),(13,.c (.int .i64 0))]
   ((3,.cells 27 (kC k))::cmO (outC k p c0 n).1) 1000 107 (fun _=>false))
  (fun n=>(outC k p c0 n).2=false∧n≤dn (outC k p c0 n).1∧(n=0∨dn (outC k p c0 n).1≤301)) (fun n=>400-n) 0 ⟨rfl,Nat.zero_le _,.inl rfl⟩ (Weak.of hN rfl rfl rfl frV (by(repeat' (first|exact rfl|exact AvIs.refl _|exact trivial|exact fun _ _=>rfl|exact fun _ _=>⟨rfl,AvIs.refl _⟩|exact cI (by omega)|exact(fun _ _=>⟨rfl,AvIs.refl _⟩)|refine⟨?_,?_⟩)))) fun n hn=>?_
 obtain⟨he,hn1,hn2⟩:=hn
 obtain⟨hg,-⟩:=out_gc (p:=p) hk hgc n
 have hstop:=fun hr=>out_stop (k:=k) (p:=p) (c:=c0) (n:=n) hr 400 (by omega)
 have hstep:=fun h1 h2=>out_step (p:=p) hk hgc (n:=n) he h1 h2
 have hnx:(outC k p c0 n).1.2≠[]→outC k p c0 (n+1)=rndC k p (txL (outC k p c0 n).1.2) (outC k p c0 n).1 (txL (outC k p c0 n).1.2).length:=fun hr=>by rw[outC,if_neg (by rw[he];simpa using hr)]
 have hol:=out_small (p:=p) hk hF.na hgc (by simp only[List.length_nil] at hbl;omega) he hn2
 have hstop1:=fun hr=>out_stop (k:=k) (p:=p) (c:=c0) (n:=n+1) hr 400 (by omega)
 generalize ho:outC k p c0 n=o at*
 obtain⟨c,eb⟩:=o
 dsimp only at he hg hn1 hn2 hstep hnx hstop hol
 subst he
 have hlenR:c.2.length≤c.1.length:=hg.dle
 refine XK.r ?_
 refine XL.lenMapE (mp_dom hg.fnodup) hT rfl rfl rfl rfl rfl rfl rfl rfl ?_
 refine XL.e ?_
 refine XK.c ?_ ?_<;>intro h1<;>try simp at h1
 ·have hne:c.2≠[]:=fun e=>by rw[e] at h1;exact absurd h1 (Nat.lt_irrefl _)
  have hnx:=hnx hne
  have hstep:=hstep hne
  rw[hnx] at hstep hstop1
  have hRi:=rnd_ok (p:=p) hk hg
  have hl1:c.2.length≤1000000:=by omega
  refine XK.r ?_
  refine XL.callMA [132,950] hE rfl rfl rfl rfl trivial (keysC_ok c.2) rfl rfl rfl rfl rfl ?_
  refine XL.g ?_
  refine XL.callMA [132,950,951] hE rfl rfl rfl rfl trivial (sortedC_ok c.2 hg.fnodup (fun s hs=>hVT c hg s (hg.sub s hs)) hl1) rfl rfl rfl rfl rfl ?_
  refine XL.e ?_
  have hTm:∀t,t∈txL c.2↔t∈c.2.map encT:=fun t=>txL_mem
  generalize hTx:txL c.2=T at*
  have hTl:T.length=c.2.length:=by rw[←hTx];unfold txL;rw[sortB_len,List.length_map]
  refine XK.weak (Weak.frozen (k:=951) hN rfl rfl) ?_
  refine XK.loop (ι:=Nat) (fun j=>ST.of [(1,.c (.int .i64 p)),(3,.ptr 3 0),(8,.ptr 115 0),(9,.ptr 116 0),(10,.fn (.func 68) [] [.ptr 115 0,.ptr 116 0]),(13,.c (.int .i64 0)),(42,.rs 1 T.length (fun i=>[.c (encStr (T.getD i []))])),(43,.c (.int .i64 T.length)),(44,.c (.int .i64 j))]
    ((3,.cells 27 (kC k))::cmO (rndC k p T c j).1) 1000 107 (fun _=>false))
   (fun j=>j≤T.length∧(rndC k p T c j).2=false) (fun j=>T.length-j) 0 ⟨Nat.zero_le _,rfl⟩ (Weak.of hN rfl rfl rfl frV (by(repeat' (first|exact rfl|exact AvIs.refl _|exact trivial|exact fun _ _=>rfl|exact fun _ _=>⟨rfl,AvIs.refl _⟩|exact cI (by omega)|exact(fun _ _=>⟨rfl,AvIs.refl _⟩)|refine⟨?_,?_⟩)))) fun j hj=>?_
  obtain⟨hj,hje⟩:=hj
  have hri:=hRi j hj
  have hrl:=rnd_len (p:=p) hF.na T c j
  refine XK.c ?_ ?_<;>intro hlt<;>try simp at hlt
  ·have hlt:j<T.length:=by omega
   have fx:T.getD (j:Int).toNat []=T.getD j []:=rfl
   have hgc1:=hri.gc
   have htx:=hri.text hje j (Nat.le_refl _) hlt
   have hnj:rndC k p T c (j+1)=if 300<(rndC k p T c j).1.1.length then((rndC k p T c j).1,true) else(popC k p (rndC k p T c j).1 (T.getD j []),false):=by rw[rndC,if_neg (by rw[hje];simp)]
   have hrs:=fun h=>rnd_stop (k:=k) (p:=p) (T:=T) (c:=c) (j:=j+1) h T.length hlt
   clear hri
   generalize hd:(rndC k p T c j).1=d at*
   generalize ht:T.getD j []=t at*
   refine XK.w ?_
   rw[fx]
   refine XK.r ?_
   refine XL.lenMapE (mp_dom hgc1.nodup) hT rfl rfl rfl rfl rfl rfl rfl rfl ?_
   refine XL.e ?_
   refine XK.c ?_ ?_<;>intro h2<;>try simp at h2
   ·have hnj':rndC k p T c (j+1)=(d,true):=by rw[hnj,if_pos (by omega)]
    have hr2:=hrs (by rw[hnj'])
    have h400:=hstop1 (.inl (by rw[hr2,hnj']))
    rw[h400,hr2,hnj',if_pos (.inl rfl)]
    refine XK.r ?_
    refine XL.lenMapGE (mp_dom hgc1.nodup) hT rfl rfl rfl rfl rfl rfl rfl rfl rfl rfl ?_
    refine XL.e ?_
    refine XK.c ?_ ?_<;>intro h3<;>try simp at h3
    refine XK.w ?_
    refine XK.l ?_
    exact⟨⟨rfl,rfl⟩,rfl⟩
   ·have hnj':rndC k p T c (j+1)=(popC k p d t,false):=by rw[hnj,if_neg (by omega)]
    obtain⟨y,hy,hyt⟩:=List.mem_map.1 htx
    have hgy:getS d.2 (encStr t)=y:=by rw[←hyt];exact getS_at hgc1.fnodup hy
    have hpop:popC k p d t=if k.days≤y.day then(d.1,d.2.filter fun y=>!(encT y==t)) else(hidL k y p k.acts.length).foldl (actC1 k y) (d.1,d.2.filter fun y=>!(encT y==t)):=by unfold popC;rw[hgy]
    have hyv:=hgc1.fvalid y hy
    have hyl:=(validS_len hyv).2.2.2.1
    have hhid:=hidden_ok k hF y hyl p
    clear hstop1 hnx hstep hRi hnj hrs
    refine XK.w ?_
    rw[hgy]
    refine XK.r ?_
    refine XL.deleteE (stV zS) getS_zero hT rfl rfl rfl rfl rfl rfl rfl rfl rfl rfl ?_
    refine XL.fin ?_
    refine XK.weak (Weak.of (L:=[(1,.c (.int .i64 p)),(3,.ptr 3 0),(8,.ptr 115 0),(9,.ptr 116 0),(10,.fn (.func 68) [] [.ptr 115 0,.ptr 116 0]),(13,.c (.int .i64 0)),(42,.rs 1 T.length (fun i=>[.c (encStr (T.getD i []))])),(43,.c (.int .i64 T.length)),(44,.c (.int .i64 j)),(16,.ptr 1337 0)])
     (O:=(3,.cells 27 (kC k))::(1337,.cells 44 (stC y))::cmO (d.1,d.2.filter fun y=>!(encT y==t))) (nx:=3000) (nt:=107) (md:=fun _=>false) hN rfl rfl rfl frI (by(repeat' (first|exact rfl|exact AvIs.refl _|exact trivial|exact fun _ _=>rfl|exact fun _ _=>⟨rfl,AvIs.refl _⟩|exact cI (by omega)|exact(fun u hu=>⟨mpD_del d.2 t u hu,getS_del d.2 t u hu⟩)|refine⟨?_,?_⟩)))) ?_
    generalize hR':(d.2.filter fun y=>!(encT y==t))=R' at*
    refine XK.c ?_ ?_<;>intro h3<;>try simp at h3
    ·rw[if_pos h3] at hpop
     refine XK.w ?_
     refine XK.inv ⟨j+1,⟨hlt,by rw[hnj']⟩,?_,by omega⟩
     rw[hnj',hpop]
     exact Weak.of hN rfl rfl rfl frV (by(repeat' (first|exact rfl|exact AvIs.refl _|exact trivial|exact fun _ _=>rfl|exact fun _ _=>⟨rfl,AvIs.refl _⟩|exact cI (by omega)|exact(fun _ _=>⟨rfl,AvIs.refl _⟩)|refine⟨?_,?_⟩)))
    ·rw[if_neg (by omega)] at hpop
     refine XK.w ?_
     refine XK.r ?_
     refine XL.callKA hE rfl rfl rfl rfl trivial rfl rfl (hhid) ?_
     refine XL.e ?_
     generalize hH:hidL k y p k.acts.length=H at*
     have hHl:H.length≤60:=by rw[←hH];have:=hidL_len k y p k.acts.length;have:=hF.na;omega
     refine XK.loop (ι:=Nat) (fun i=>ST.of [(1,.c (.int .i64 p)),(3,.ptr 3 0),(8,.ptr 115 0),(9,.ptr 116 0),(10,.fn (.func 68) [] [.ptr 115 0,.ptr 116 0]),(13,.c (.int .i64 0)),(42,.rs 1 T.length (fun i=>[.c (encStr (T.getD i []))])),(43,.c (.int .i64 T.length)),(44,.c (.int .i64 j)),(16,.ptr 1337 0),(64,intsV H),(65,.c (.int .i64 H.length)),(66,.c (.int .i64 i))]
       ((3,.cells 27 (kC k))::(1337,.cells 44 (stC y))::cmO ((H.take i).foldl (actC1 k y) (d.1,R'))) 3000 107 (fun _=>false))
      (fun i=>i≤H.length) (fun i=>H.length-i) 0 (Nat.zero_le _) (Weak.of hN rfl rfl rfl frV (by(repeat' (first|exact rfl|exact AvIs.refl _|exact trivial|exact fun _ _=>rfl|exact fun _ _=>⟨rfl,AvIs.refl _⟩|exact cI (by omega)|exact(fun _ _=>⟨rfl,AvIs.refl _⟩)|refine⟨?_,?_⟩)))) fun i hi=>?_
     refine XK.c ?_ ?_<;>intro hil<;>try simp at hil
     ·have hil:i<H.length:=by omega
      have fi:H.getD (i:Int).toNat default=H.getD i default:=rfl
      have hfl:=foldl_take (actC1 k y) (d.1,R') hil
      have hs:=stepS_ok k hk y (H.getD i default)
      have hsv:=fun h=>txOk_of hk (validS_step hk (s:=y) (t:=H.getD i default) h)
      have hq:∀u,u=stepS k y (H.getD i default)→Does Tryz.prog 16 [kV k,stV y,.c (.int .i64 (H.getD i default))] (sr u):=fun u hu=>hu▸hs
      have ha1:actC1 k y ((H.take i).foldl (actC1 k y) (d.1,R')) (H.getD i default)=if(stepS k y (H.getD i default)).2=0 then meetC ((H.take i).foldl (actC1 k y) (d.1,R')) (stepS k y (H.getD i default)).1 else(H.take i).foldl (actC1 k y) (d.1,R'):=rfl
      rw[ha1] at hfl
      clear ha1 hs
      generalize hu:stepS k y (H.getD i default)=u at*
      have hs:=hq u rfl
      clear hq
      generalize hc4:(H.take i).foldl (actC1 k y) (d.1,R')=c4 at*
      generalize hc5:(H.take (i+1)).foldl (actC1 k y) (d.1,R')=c5 at*
      refine XK.w ?_
      rw[fi]
      refine XK.r ?_
      refine XL.callKA hE rfl rfl rfl rfl trivial rfl rfl (hs) ?_
      refine XL.e ?_
      refine XK.c ?_ ?_<;>intro h5<;>try simp at h5
      ·rw[if_pos h5] at hfl
       have hme:=meet_ok c4 u.1 (hsv h5)
       rw[←hfl] at hme
       refine XK.r ?_
       refine XL.callMA [115,116,131,132] hE rfl rfl rfl rfl trivial (hme) rfl rfl rfl rfl rfl ?_
       refine XL.e ?_
       refine XK.inv ⟨i+1,hil,?_,by omega⟩
       rw[hc5]
       exact Weak.of hN rfl rfl rfl frV (by(repeat' (first|exact rfl|exact AvIs.refl _|exact trivial|exact fun _ _=>rfl|exact fun _ _=>⟨rfl,AvIs.refl _⟩|exact cI (by omega)|exact(fun _ _=>⟨rfl,AvIs.refl _⟩)|refine⟨?_,?_⟩)))
      ·rw[if_neg h5] at hfl
       refine XK.w ?_
       refine XK.inv ⟨i+1,hil,?_,by omega⟩
       rw[hc5,hfl]
       exact Weak.of hN rfl rfl rfl frV (by(repeat' (first|exact rfl|exact AvIs.refl _|exact trivial|exact fun _ _=>rfl|exact fun _ _=>⟨rfl,AvIs.refl _⟩|exact cI (by omega)|exact(fun _ _=>⟨rfl,AvIs.refl _⟩)|refine⟨?_,?_⟩)))
     ·have hie:i=H.length:=by omega
      subst hie
      rw[List.take_length,←hpop]
      refine XK.w ?_
      refine XK.inv ⟨j+1,⟨hlt,by rw[hnj']⟩,?_,by omega⟩
      rw[hnj']
      exact Weak.of hN rfl rfl rfl frV (by(repeat' (first|exact rfl|exact AvIs.refl _|exact trivial|exact fun _ _=>rfl|exact fun _ _=>⟨rfl,AvIs.refl _⟩|exact cI (by omega)|exact(fun _ _=>⟨rfl,AvIs.refl _⟩)|refine⟨?_,?_⟩)))
  ·have hjl:j=T.length:=by omega
   subst hjl
   have h9:=hstep hje
   refine XK.w ?_
   refine XK.inv ⟨n+1,⟨by rw[hnx];exact hje,by rw[hnx];omega,.inr (by rw[hnx];exact h9.2)⟩,?_,by omega⟩
   rw[hnx]
   exact Weak.of hN rfl rfl rfl frV (by(repeat' (first|exact rfl|exact AvIs.refl _|exact trivial|exact fun _ _=>rfl|exact fun _ _=>⟨rfl,AvIs.refl _⟩|exact cI (by omega)|exact(fun _ _=>⟨rfl,AvIs.refl _⟩)|refine⟨?_,?_⟩)))
 ·have h400:=hstop (.inr h1)
  rw[h400]
  clear hstop hstep hnx hstop1 hend h400 ho
  refine XK.r ?_
  refine XL.lenMapGE (mp_dom hg.nodup) hT rfl rfl rfl rfl rfl rfl rfl rfl rfl rfl ?_
  refine XL.e ?_
  refine XK.c ?_ ?_<;>intro h3<;>try simp at h3
  ·rw[if_pos (.inr (by dsimp only;omega))]
   refine XK.w ?_
   refine XK.l ?_
   exact⟨⟨rfl,rfl⟩,rfl⟩
  ·rw[if_neg (by dsimp only;simp;omega)]
   have hFl:c.1.length≤300:=by omega
   have hln:(txL c.1).length=c.1.length:=by unfold txL;rw[sortB_len,List.length_map]
   refine XK.r ?_
   refine XL.callMA [131,960] hE rfl rfl rfl rfl trivial (keysC_ok c.1) rfl rfl rfl rfl rfl ?_
   refine XL.g ?_
   refine XL.callMA [131,960,961] hE rfl rfl rfl rfl trivial (sortedC_ok c.1 hg.nodup (hVT c hg) (by omega)) rfl rfl rfl rfl rfl ?_
   refine XL.e ?_
   dsimp only
   generalize txL c.1=T at*
   refine XK.weak (Weak.frozen (k:=961) hN rfl rfl) ?_
   refine XK.loop (ι:=Nat) (fun i=>ST.of [(8,.ptr 115 0),(21,.vec 900 0),(93,.rs 1 T.length (fun i=>[.c (encStr (T.getD i []))])),(94,.c (.int .i64 T.length)),(95,.c (.int .i64 i))]
     [(115,.cells 142 [.mp 131]),(131,mbO c.1),(900,stO 0 ((T.take i).map fun t=>getS c.1 (encStr t)))] 4000 107 (fun _=>false))
    (fun i=>i≤T.length) (fun i=>T.length-i) 0 (Nat.zero_le _)
    (Weak.trans (Weak.ghost (j:=21) (k:=900) (e:=44) (sz:=4) (f:=fun _=>[]) rfl rfl) (Weak.of hN rfl rfl rfl frV ⟨frI,⟨rfl,rfl,fun _ _=>⟨rfl,AvIs.refl _⟩⟩,⟨rfl,rfl,rfl⟩,rfl,fun j hj=>absurd hj (Nat.not_lt_zero _)⟩)) fun i hi=>?_
   refine XK.c ?_ ?_<;>intro hil<;>try simp at hil
   ·have hil:i<T.length:=by omega
    have fx:T.getD (i:Int).toNat []=T.getD i []:=rfl
    have hms:(T.take (i+1)).map (fun t=>getS c.1 (encStr t))=(T.take i).map (fun t=>getS c.1 (encStr t))++[getS c.1 (encStr (T.getD i []))]:=by
     rw[List.take_add_one,List.getElem?_eq_getElem hil,List.map_append,List.getD_eq_getElem?_getD,List.getElem?_eq_getElem hil];rfl
    have hLl:((T.take i).map (fun t=>getS c.1 (encStr t))).length≤300:=by rw[List.length_map,List.length_take];omega
    generalize (T.take i).map (fun t=>getS c.1 (encStr t))=L at*
    refine XK.w ?_
    rw[fx]
    generalize getS c.1 (encStr (T.getD i []))=s at*
    refine XK.inv ⟨i+1,hil,?_,by omega⟩
    rw[hms]
    exact Weak.trans (Weak.stamp (k:=900) (t:=0) hN rfl rfl) (Weak.of hN rfl rfl rfl frV ⟨frI,⟨rfl,rfl,fun _ _=>⟨rfl,AvIs.refl _⟩⟩,⟨rfl,rfl,rfl⟩,by simp,row_snocD stC L s _ rfl⟩)
   ·have hie:i=T.length:=by omega
    subst hie
    rw[List.take_length]
    refine XK.weak (Weak.trans (Weak.frozen (k:=900) hN rfl rfl) (Weak.of (L:=[(21,stsL (T.map fun t=>getS c.1 (encStr t)))]) (O:=[]) (nx:=5000) (nt:=107) (md:=fun _=>false) hN rfl rfl rfl frI trivial)) ?_
    refine XK.w ?_
    refine XK.q ?_
    rfl
end
end Go.Proofs.YtgpkkllbejgmlaaGreatDoor
