import Derived.Test.YtgpkkllbejgmlaaGreatDoorZz14
import Derived.Test.YtgpkkllbejgmlaaGreatDoorZz23
import Derived.Test.YtgpkkllbejgmlaaGreatDoorZz19
import Derived.Test.YtgpkkllbejgmlaaGreatDoorZz21
import Derived.Shelf.SlIter.Sorted
import Derived.Test.YtgpkkllbejgmlaaGreatDoorZz20
import Derived.Test.YtgpkkllbejgmlaaGreatDoorZz24
set_option linter.unusedSimpArgs false
set_option linter.unusedVariables false
set_option maxRecDepth 10000
namespace Go.Proofs.YtgpkkllbejgmlaaGreatDoor
section
open Go.Eng Go.RowKit Go.Lib Go.Sort Go.Shelf Go.Maps
def keysRen:Go.Shelf.Ren:=⟨fun|6=>70|7=>71|8=>112|9=>113|10=>114|11=>151|n=>n,
 fun|0=>0|3=>44|4=>4|23=>142|24=>146|26=>9|27=>149|28=>149|33=>213|n=>n,fun n=>n⟩
theorem keysLaid:SlLaysZ.n10 Tryz.prog keysRen where
 mixed:=by kernel_rfl
 f10:=⟨Tryz.f114.name,by decide+kernel,Tryz.func114.trans (congrArg some (by kernel_rfl))⟩
 t0:=Tryz.underlying0
 a0:=Tryz.isAgg0
 z0:=Tryz.sizeOf0
 v0:=Tryz.zeroValue0
 t4:=Tryz.underlying4
 a4:=Tryz.isAgg4
 z4:=Tryz.sizeOf4
 v4:=Tryz.zeroValue4
 t23:=Tryz.underlying142
 a23:=Tryz.isAgg142
 z23:=Tryz.sizeOf142
 v23:=Tryz.zeroValue142
 t26:=Tryz.underlying9
 a26:=Tryz.isAgg9
 z26:=Tryz.sizeOf9
 v26:=Tryz.zeroValue9
 t33:=Tryz.underlying213
 a33:=Tryz.isAgg213
 z33:=Tryz.sizeOf213
 v33:=Tryz.zeroValue213
theorem sortedLaid:SlLaysZ.n6 Tryz.prog keysRen where
 mixed:=by kernel_rfl
 f6:=⟨Tryz.f70.name,by decide+kernel,Tryz.func70.trans (congrArg some (by kernel_rfl))⟩
 f8:=⟨Tryz.f112.name,by decide+kernel,Tryz.func112.trans (congrArg some (by kernel_rfl))⟩
 f11:=⟨Tryz.f151.name,by decide+kernel,Tryz.func151.trans (congrArg some (by kernel_rfl))⟩
 t0:=Tryz.underlying0
 a0:=Tryz.isAgg0
 z0:=Tryz.sizeOf0
 v0:=Tryz.zeroValue0
 t24:=Tryz.underlying146
 a24:=Tryz.isAgg146
 z24:=Tryz.sizeOf146
 v24:=Tryz.zeroValue146
 t26:=Tryz.underlying9
 a26:=Tryz.isAgg9
 z26:=Tryz.sizeOf9
 v26:=Tryz.zeroValue9
 t28:=Tryz.underlying149
 a28:=Tryz.isAgg149
 z28:=Tryz.sizeOf149
 v28:=Tryz.zeroValue149
 i26:=by kernel_rfl
theorem sortsIn (m:Nat):AnyZ.SortsIn Tryz.prog keysRen Fence.wide m:=
 ⟨fun blk off cap ss W hH hblk hsz=>callsIn_wide.2 (Tryz.slices_Sort_string blk off cap ss W hH hblk hsz),
  fun p cap W=>callsIn_wide.2 (Tryz.slices_Sort_string_none p cap W)⟩
def noElem:Value→Option (DataW Unit×List MemPlace):=fun _=>some (.lit (.bool true),[])
theorem keys_perm {es:Array MapEntry} {clock:Nat} (hs:Go.MapKept.Stamped es clock) (hk:∀e∈es.toList,KK.str.has e.key=true) {dm:Value→Bool} {L:List (List UInt8)} (hn:L.Nodup) (hl:∀t∈L,t.length≤maxLen)
  (hd:∀v,KK.str.has v=true→(dm v=true↔∃t∈L,v=encStr t)) (hr:∀v,KK.str.has v=true→∃r,Go.Eng.Holds es.toList v r∧r.isSome=dm v):
  es.size=L.length∧(∀e∈es.toList,∃t∈L,e.key=encStr t)∧((es.toList.map fun e=>e.key).Perm (L.map encStr)):=by
 have h1:∀e∈es.toList,∃t∈L,e.key=encStr t:=fun e he=>by
  obtain⟨r,r1,r2⟩:=hr _ (hk e he)
  refine(hd _ (hk e he)).1 ?_
  rcases r1 with⟨_,r1⟩|⟨_,_,_,rfl⟩
  ·exact absurd rfl (r1 e he)
  ·rw[←r2];rfl
 have hp:(es.toList.map fun e=>e.key).Perm (L.map encStr):=by
  refine(List.perm_ext_iff_of_nodup hs.2.2 ?_).2 fun v=>?_
  ·exact List.Pairwise.map _ (fun a b h e=>h (encStr_inj e)) hn
  ·constructor
   ·intro hv
    obtain⟨e,he,rfl⟩:=List.mem_map.1 hv
    obtain⟨t,ht,h2⟩:=h1 e he
    exact List.mem_map.2 ⟨t,ht,h2.symm⟩
   ·intro hv
    obtain⟨t,ht,rfl⟩:=List.mem_map.1 hv
    have hh:KK.str.has (encStr t)=true:=rfl
    have h2:=(hd _ hh).2 ⟨t,ht,rfl⟩
    obtain⟨r,r1,r2⟩:=hr _ hh
    rw[h2] at r2
    rcases r1 with⟨rfl,_⟩|⟨e,he,h3,_⟩
    ·cases r2
    ·exact List.mem_map.2 ⟨e,he,h3⟩
 refine⟨?_,h1,hp⟩
 have:=hp.length_eq
 simpa using this
theorem sortedKeys_ok {zv:Value} {dm:Value→Bool} {f:Value→AV} (L:List (List UInt8)) (hn:L.Nodup) (hl:∀t∈L,t.length≤maxLen) (hlen:L.length≤1000000) (hd:∀v,KK.str.has v=true→(dm v=true↔∃t∈L,v=encStr t)):
  DoesM Tryz.prog 70 [.fn (.func 114) [] [.ptr 1 0]] [.mapb .str zv dm f,.cells 142 [.mp 0]] (.vec 2 0)
   [.mapb .str zv dm f,.cells 142 [.mp 0],.vec 9 1 0 L.length (fun i=>[.c (encStr ((L.mergeSort leB).getD i []))])]:=by
 refine⟨⟨_,Tryz.func70,rfl,by kernel_rfl⟩,Nat.le_succ 2,fun w G r vs hs hG hgl hM ha=>?_⟩
 have h0:=ha 0 _ rfl
 obtain⟨g0,es,clock,m1,m2,⟨m3,m4⟩,m5⟩:=hM.ob 0 _ rfl
 obtain⟨g1,arr,c1,c2,c3,c4⟩:=hM.ob 1 _ rfl
 have c5:=c4 0 _ rfl
 have c6:arr.getD 0 undef=.map (some g0):=by
  generalize arr.getD 0 undef=u at c5
  cases c5 with|mp hk=>rw[m1] at hk;injection hk with hk;injection hk with hk;rw[hk]
 have hcell:w.cell? ⟨g1,0,none⟩=some (.map (some g0)):=by
  have h1:0<arr.size:=by rw[c3];decide
  simp only[World.cell?,c2]
  rw[←c6]
  simp[h1]
 have hvs:vs=#[.func (.func 114) #[] #[.pointer (some ⟨g1,0,none⟩)]]:=by
  have h1:vs.getD 0 undef=.func (.func 114) #[] #[.pointer (some ⟨g1,0,none⟩)]:=by
   generalize vs.getD 0 undef=u at h0
   cases h0 with
   |@fn _ _ _ _ fs cs q1 q2 q3 q4=>
    have e1:fs=#[]:=by apply Array.eq_empty_of_size_eq_zero;simpa using q1
    have e2:=q4 0 _ rfl
    obtain⟨g,hg,e3⟩:=e2.ptr_inv
    rw[c1] at hg
    injection hg with hg
    injection hg with hg
    subst hg
    have q3:cs.size=1:=by simpa using q3
    have e4:cs=#[.pointer (some ⟨g1,0,none⟩)]:=by
     apply Array.ext
     ·simpa using q3
     ·intro i h1 h2
      have:i=0:=by omega
      subst this
      simpa[h1] using e3
    rw[e1,e4]
  apply Array.ext
  ·simpa using hs
  ·intro i h2 h3
   have:i=0:=by simp at hs;omega
   subst this
   simpa[h2] using h1
 subst hvs
 obtain⟨k1,k2,k3⟩:=keys_perm m3 m4 hn hl hd fun v hv=>by
  obtain⟨r,r1,r2,_⟩:=m5 v hv
  exact⟨r,r1,r2⟩
 have hrd:∀e∈es.toList,∃t∈L,e.key=encStr t∧Go.WideElems.rd Tryz.prog (keysRen.t 26) noElem e=some (.string t,.lit (.bool true)):=fun e he=>by
  obtain⟨t,ht,h1⟩:=k2 e he
  refine⟨t,ht,h1,?_⟩
  unfold Go.WideElems.rd
  rw[h1,show keyOf Tryz.prog (keysRen.t 26) (encStr t)=some (.string t) from Go.WideMaps.keyOf_string_mk (k:=keysRen.t 26) (Tryz.underlying9) (s:=⟨t.toArray⟩) (by show t.toArray.size≤_;rw[List.size_toArray];exact hl t ht)]
  rfl
 have hrg:∀e∈es.toList,∃t,e.key=encStr t∧(Go.WideElems.rg Tryz.prog (keysRen.t 26) noElem e).1=.string t:=fun e he=>by
  obtain⟨t,_,h1,h2⟩:=hrd e he
  exact⟨t,h1,by unfold Go.WideElems.rg;rw[h2];rfl⟩
 have hsz:es.size≤maxLen:=by rw[k1];simp only[maxLen];omega
 let D0:DataW Unit:=.map ((es.toList.map (Go.WideElems.rg Tryz.prog (keysRen.t 26) noElem)).foldr DataW.insert [])
 have hown:w.ownsMap Tryz.prog (keysRen.t 26) noElem g0 L.length D0:=⟨es,clock,m2,⟨hsz,m3,fun e he=>by
  obtain⟨t,_,_,h2⟩:=hrd e he
  exact⟨_,h2⟩⟩,Nat.le_of_eq k1,rfl⟩
 have hD:(strKeys D0).Perm L:=by
  have h1:(strKeys D0).Perm ((es.toList.map (Go.WideElems.rg Tryz.prog (keysRen.t 26) noElem)).map fun p=>strOf p.1):=(Go.WideShapes.sorted_perm _).map _
  refine h1.trans ?_
  have h2:((es.toList.map (Go.WideElems.rg Tryz.prog (keysRen.t 26) noElem)).map fun p=>strOf p.1).map encStr=es.toList.map fun e=>e.key:=by
   rw[List.map_map,List.map_map]
   refine List.map_congr_left fun e he=>?_
   obtain⟨t,h3,h4⟩:=hrg e he
   simp only[Function.comp,h4,strOf,h3]
  rw[←h2] at k3
  have inj:∀{l l':List (List UInt8)},(l.map encStr).Perm (l'.map encStr)→l.Perm l':=fun{l l'} h=>by
   have:=h.map (fun v:Value=>match v with|.string s=>s.data.toList|_=>[])
   rw[List.map_map,List.map_map] at this
   have e:∀l:List (List UInt8),l.map ((fun v:Value=>match v with|.string s=>s.data.toList|_=>[])∘encStr)=l:=fun l=>by
    conv=>rhs;rw[←List.map_id l]
    exact List.map_congr_left fun x _=>rfl
   rwa[e,e] at this
  exact inj k3
 have hMs:Maps.size D0=L.length:=by
  show((es.toList.map (Go.WideElems.rg Tryz.prog (keysRen.t 26) noElem)).foldr DataW.insert []).length=_
  rw[(Go.WideShapes.sorted_perm _).length_eq]
  simpa using k1
 have hg1:g1<w.heap.size:=(Array.getElem?_eq_some_iff.1 c2).1
 have hseq:SeqGives Fence.wide (5-1-1-1) Tryz.prog 114 #[.pointer (some ⟨g1,0,none⟩)] encStr (fun ss=>ss.Perm (strKeys D0)) (Maps.size D0) w:=
  AnyZ.keys_gives (ρ:=keysRen) keysLaid Fence.wide _ trivial rfl (by omega) g1 g0 L.length D0 w hg1 hcell hown
 have cS:=AnyZ.sorted_in sortedLaid Fence.wide 5 trivial trivial trivial trivial rfl (by omega) (sortsIn _) (enters_of Tryz.func113 (by kernel_rfl) rfl) 114 #[.pointer (some ⟨g1,0,none⟩)] trivial (enters_of Tryz.func114 (by kernel_rfl) rfl) _ _ (by rw[hMs,←k1];exact hsz) (by rw[hMs];omega) w hseq
 change CallsIn _ _ Tryz.prog 70 _ _ _ at cS
 refine((callsIn_wide (n:=5)).1 cS).mono ?_
 rintro e w' ⟨v,ss,rfl,hS,hrow,hnil,hb⟩
 have hperm:ss.Perm L:=hS.trans hD
 have hms:ss.mergeSort (fun x y=>decide (x≤y))=L.mergeSort leB:=mergeSort_of_perm hperm
 have hsl:ss.length=L.length:=hperm.length_eq
 rw[hms,hsl] at hrow
 have hk0:Keep (fun _=>False) w w':=Keep.of_below' hb rfl
 have hbig:∀b,v.ownBlock=some b→w.heap.size≤b∧b<w'.heap.size:=fun b hb'=>by
  rcases hrow.2 with⟨rfl,_⟩|⟨g,cap,cur,rfl,q1,q2,_⟩
  ·cases hb'
  ·injection hb' with hb'
   subst hb'
   exact⟨q1,(Array.getElem?_eq_some_iff.1 q2).1⟩
 have hN2:r 2=none:=hM.no 2 rfl
 let ρ':Rho:=upd r 2 (some (.hdr 0 v))
 have e1:∀j,j≠2→ρ' j=r j:=fun j hj=>upd_other _ _ hj
 have e2:ρ' 2=some (.hdr 0 v):=upd_same _ _ _
 have hgood:∀b,(Env.at_ Tryz.prog w G 2 r).good w r b→(Env.at_ Tryz.prog w G 2 r).good w' ρ' b∧w'.heap[b]?=w.heap[b]?:=fun b ⟨q1,q2,q3⟩=>by
  refine⟨⟨q1,Nat.lt_of_lt_of_le q2 hk0.size,fun j x hj hx=>?_⟩,hk0.block b q2 id⟩
  by_cases h2:j=2
  ·subst h2
   rw[e2] at hj
   injection hj with hj
   subst hj
   have:=(hbig b hx).1
   omega
  ·exact q3 j x ((e1 j h2)▸hj) hx
 have hle:Le r ρ':=fun j x hj=>.inl (by rw[e1 j (fun e=>by subst e;rw[hN2] at hj;cases hj)];exact hj)
 have hlt:∀j x b,r j=some x→x.block=some b→b<w.heap.size:=fun j x b h1 h2=>hM.lt h1 h2
 refine⟨v,ρ',rfl,⟨⟨hk0.os,hk0.tape,hk0.output,hk0.size,fun k q1 _=>hk0.block k q1 id,hk0.drawn⟩,fun k o ho=>?_,fun k ho=>?_,fun k k' x x' b h1 h2 h3 h4=>?_,fun k x b h1 h2=>?_,fun k hk x hx=>.inl ?_⟩,.vec e2⟩
 ·match k,ho with
  |0,ho=>
   injection ho with ho
   subst ho
   exact(hM.ob 0 _ rfl).tr hgood hle (e1 0 (by decide)) fun x b h1 h2=>hk0.block b (hlt _ _ _ h1 h2) id
  |1,ho=>
   injection ho with ho
   subst ho
   exact(hM.ob 1 _ rfl).tr hgood hle (e1 1 (by decide)) fun x b h1 h2=>hk0.block b (hlt _ _ _ h1 h2) id
  |2,ho=>
   injection ho with ho
   subst ho
   have hml:(L.mergeSort leB).length=L.length:=List.length_mergeSort L
   refine⟨v,_,e2,⟨hrow.1,?_⟩,fun i hi=>rfl,fun i j x hi hx=>?_⟩
   ·rcases hrow.2 with q|⟨g,cap,cur,q0,q1,q2⟩
    ·exact .inl q
    ·exact .inr ⟨g,cap,cur,q0,Nat.zero_le _,q2⟩
   ·cases j with
    |succ j=>simp at hx
    |zero=>
     injection hx with hx
     subst hx
     have:((L.mergeSort leB).map encStr).getD (i*1+0) undef=encStr ((L.mergeSort leB).getD i []):=by
      have h5:i<(L.mergeSort leB).length:=by omega
      rw[Nat.mul_one,Nat.add_zero,List.getD_eq_getElem?_getD,List.getElem?_map,List.getD_eq_getElem?_getD,List.getElem?_eq_getElem h5];rfl
     rw[this]
     exact .c
  |k+3,ho=>cases ho
 ·have hk2:k≠2:=fun e=>by subst e;cases ho
  rw[e1 k hk2]
  refine hM.no k ?_
  match k,ho,hk2 with
  |0,ho,_=>cases ho
  |1,ho,_=>cases ho
  |k+3,_,_=>rfl
 ·by_cases q1:k=2<;>by_cases q2:k'=2
  ·rw[q1,q2]
  ·subst q1
   rw[e2] at h1
   injection h1 with h1
   subst h1
   rw[e1 k' q2] at h2
   have:=(hbig b h3).1
   have:=hlt _ _ _ h2 h4
   omega
  ·subst q2
   rw[e2] at h2
   injection h2 with h2
   subst h2
   rw[e1 k q1] at h1
   have:=(hbig b h4).1
   have:=hlt _ _ _ h1 h3
   omega
  ·exact hM.dis k k' x x' b ((e1 k q1)▸h1) ((e1 k' q2)▸h2) h3 h4
 ·by_cases q1:k=2
  ·subst q1
   rw[e2] at h1
   injection h1 with h1
   subst h1
   exact .inl (hbig b h2).1
  ·exact hM.own k x b ((e1 k q1)▸h1) h2
 ·have hk:k<2:=hk
  rw[e1 k (by omega)]
  exact hx
end
section
open Go.Eng Go.RowKit Go.Lib Go.Sort
def insB (x:List UInt8):List (List UInt8)→List (List UInt8)
 |[]=>[x]
 |y::l=>if leB x y=true then x::y::l else y::insB x l
def sortB:List (List UInt8)→List (List UInt8)
 |[]=>[]
 |x::l=>insB x (sortB l)
theorem insB_perm (x:List UInt8):∀l,(insB x l).Perm (x::l)
 |[]=>.refl _
 |y::l=>by
  unfold insB
  split
  ·exact .refl _
  ·exact((insB_perm x l).cons y).trans (.swap x y l)
theorem sortB_perm:∀l,(sortB l).Perm l
 |[]=>.refl _
 |x::l=>(insB_perm x _).trans ((sortB_perm l).cons x)
theorem leB_trans:∀a b c:List UInt8,leB a b=true→leB b c=true→leB a c=true:=fun a b c h1 h2=>by simp only[leB,decide_eq_true_eq] at*;exact List.le_trans h1 h2
theorem leB_total:∀a b:List UInt8,(leB a b||leB b a)=true:=fun a b=>by simp only[leB,Bool.or_eq_true,decide_eq_true_eq];exact List.le_total a b
theorem insB_sorted (x:List UInt8):∀l:List (List UInt8),l.Pairwise (fun a b=>leB a b=true)→(insB x l).Pairwise (fun a b=>leB a b=true)
 |[],_=>List.pairwise_singleton _ _
 |y::l,h=>by
  obtain⟨h1,h2⟩:=List.pairwise_cons.1 h
  unfold insB
  split
  ·rename_i hxy
   exact List.pairwise_cons.2 ⟨fun z hz=>by
    rcases List.mem_cons.1 hz with rfl|hz
    ·exact hxy
    ·exact leB_trans _ _ _ hxy (h1 z hz),h⟩
  ·rename_i hxy
   refine List.pairwise_cons.2 ⟨fun z hz=>?_,insB_sorted x l h2⟩
   rcases List.mem_cons.1 ((insB_perm x l).mem_iff.1 hz) with rfl|hz
   ·have:=leB_total z y
    simp only[Bool.or_eq_true] at this
    exact this.resolve_left hxy
   ·exact h1 z hz
theorem sortB_sorted:∀l:List (List UInt8),(sortB l).Pairwise (fun a b=>leB a b=true)
 |[]=>.nil
 |x::l=>insB_sorted x _ (sortB_sorted l)
theorem sortB_merge (l:List (List UInt8)):l.mergeSort leB=sortB l:=by
 refine List.Perm.eq_of_pairwise (le:=fun a b=>leB a b=true) (fun a b _ _ h1 h2=>?_) (List.pairwise_mergeSort leB_trans leB_total l) (sortB_sorted l) ((List.mergeSort_perm l leB).trans (sortB_perm l).symm)
 simp only[leB,decide_eq_true_eq] at h1 h2
 exact List.le_antisymm h1 h2
theorem sortB_len (l:List (List UInt8)):(sortB l).length=l.length:=(sortB_perm l).length_eq
def encV (s:St):Value:=encStr (encT s)
def mpD:List St→Value→Bool
 |[],_=>false
 |x::l,u=>keyEq u (encV x)||mpD l u
def getS:List St→Value→St
 |[],_=>zS
 |x::l,u=>bif keyEq u (encV x) then x else getS l u
def zSv:Value:=.agg #[.int .i64 0,.slice none 0 0,.slice none 0 0,.slice none 0 0]
def mbO (l:List St):Ob:=.mapb .str zSv (mpD l) (fun u=>stV (getS l u))
theorem keyEq_enc (a b:List UInt8):keyEq (encStr a) (encStr b)=(a==b):=by
 rw[Bool.eq_iff_iff,keyEq_iff (kk:=.str) rfl rfl,beq_iff_eq]
 exact⟨fun h=>encStr_inj h,fun h=>by rw[h]⟩
theorem mpD_iff (l:List St) (t:List UInt8):mpD l (encStr t)=true↔t∈l.map encT:=by
 induction l with
 |nil=>simp[mpD]
 |cons x l ih=>
  rw[mpD,Bool.or_eq_true,ih,encV,keyEq_enc,beq_iff_eq,List.map_cons,List.mem_cons]
theorem getS_at {l:List St} (hn:(l.map encT).Nodup) {s:St} (hs:s∈l):getS l (encV s)=s:=by
 induction l with
 |nil=>cases hs
 |cons x l ih=>
  rw[List.map_cons,List.nodup_cons] at hn
  rw[getS,encV,encV,keyEq_enc]
  rcases List.mem_cons.1 hs with rfl|hs
  ·simp
  ·have:encT s≠encT x:=fun e=>hn.1 (by rw[←e];exact List.mem_map.2 ⟨s,hs,rfl⟩)
   simp only[beq_eq_false_iff_ne.2 this,cond_false]
   exact ih hn.2 hs
abbrev Cs:=List St×List St
def meetC (c:Cs) (s:St):Cs:=if encT s∈c.1.map encT then c else(s::c.1,s::c.2)
noncomputable def actC1 (k:K) (s:St) (c:Cs) (a:Int):Cs:=if(stepS k s a).2=0 then meetC c (stepS k s a).1 else c
noncomputable def popC (k:K) (p:Int) (c:Cs) (t:List UInt8):Cs:=
 if k.days≤(getS c.2 (encStr t)).day then(c.1,c.2.filter fun y=>!(encT y==t))
 else(hidL k (getS c.2 (encStr t)) p k.acts.length).foldl (actC1 k (getS c.2 (encStr t))) (c.1,c.2.filter fun y=>!(encT y==t))
noncomputable def rndC (k:K) (p:Int) (T:List (List UInt8)) (c:Cs):Nat→Cs×Bool
 |0=>(c,false)
 |j+1=>if(rndC k p T c j).2=true then rndC k p T c j else if 300<(rndC k p T c j).1.1.length then((rndC k p T c j).1,true) else(popC k p (rndC k p T c j).1 (T.getD j []),false)
def txL (l:List St):List (List UInt8):=sortB (l.map encT)
noncomputable def outC (k:K) (p:Int) (c:Cs):Nat→Cs×Bool
 |0=>(c,false)
 |n+1=>if(outC k p c n).2=true∨(outC k p c n).1.2=[] then outC k p c n else rndC k p (txL (outC k p c n).1.2) (outC k p c n).1 (txL (outC k p c n).1.2).length
def begC (l:List St):Cs:=l.foldl meetC ([],[])
noncomputable def finC (k:K) (p:Int) (l:List St):Cs×Bool:=outC k p (begC l) 400
noncomputable def closR (k:K) (p:Int) (l:List St):List St×Int:=
 if(finC k p l).2=true∨300<(finC k p l).1.1.length then([],3) else((txL (finC k p l).1.1).map fun t=>getS (finC k p l).1.1 (encStr t),0)
structure GC (k:K) (c:Cs):Prop where
 valid:∀s∈c.1,validS k s=true
 nodup:(c.1.map encT).Nodup
 fnodup:(c.2.map encT).Nodup
 sub:∀s∈c.2,s∈c.1
theorem GC.nil (k:K):GC k ([],[]):=⟨fun s h=>by simp at h,by simp,by simp,fun s h=>by simp at h⟩
theorem meetC_mono {c:Cs} {s x:St} (h:x∈c.1):x∈(meetC c s).1:=by
 unfold meetC
 split
 ·exact h
 ·exact List.mem_cons_of_mem _ h
section
variable {k:K} {p:Int}
theorem GC.fvalid {c:Cs} (h:GC k c):∀s∈c.2,validS k s=true:=fun s hs=>h.valid s (h.sub s hs)
theorem GC.meet {c:Cs} (h:GC k c) {s:St} (hv:validS k s=true):GC k (meetC c s)∧s∈(meetC c s).1:=by
 unfold meetC
 split
 ·rename_i hm
  refine⟨h,?_⟩
  obtain⟨y,hy,e⟩:=List.mem_map.1 hm
  have:=encT_inj (valid_len (h.valid y hy) hv) e
  rw[←this];exact hy
 ·rename_i hm
  refine⟨⟨fun x hx=>?_,?_,?_,fun x hx=>?_⟩,List.mem_cons_self⟩
  ·rcases List.mem_cons.1 hx with rfl|hx
   ·exact hv
   ·exact h.valid x hx
  ·rw[List.map_cons,List.nodup_cons];exact⟨hm,h.nodup⟩
  ·rw[List.map_cons,List.nodup_cons]
   refine⟨fun hq=>hm ?_,h.fnodup⟩
   obtain⟨y,hy,e⟩:=List.mem_map.1 hq
   exact List.mem_map.2 ⟨y,h.sub y hy,e⟩
  ·rcases List.mem_cons.1 hx with rfl|hx
   ·exact List.mem_cons_self
   ·exact List.mem_cons_of_mem _ (h.sub x hx)
theorem meetC_len {c:Cs} {s:St}:(meetC c s).1.length+c.2.length=(meetC c s).2.length+c.1.length∧c.1.length≤(meetC c s).1.length∧(meetC c s).1.length≤c.1.length+1∧(∀t∈c.2.map encT,t∈(meetC c s).2.map encT):=by
 unfold meetC
 split
 ·exact⟨by omega,by omega,by omega,fun t h=>h⟩
 ·exact⟨by simp;omega,by simp,by simp,fun t h=>by rw[List.map_cons];exact List.mem_cons_of_mem _ h⟩
structure ActR (k:K) (c d:Cs):Prop where
 gc:GC k d
 len:d.1.length+c.2.length=d.2.length+c.1.length
 mono:∀x∈c.1,x∈d.1
 text:∀t∈c.2.map encT,t∈d.2.map encT
theorem ActR.refl {c:Cs} (h:GC k c):ActR k c c:=⟨h,by omega,fun _ h=>h,fun _ h=>h⟩
theorem ActR.trans {a b c:Cs} (h:ActR k a b) (h':ActR k b c):ActR k a c:=⟨h'.gc,by have:=h.len;have:=h'.len;omega,fun x hx=>h'.mono x (h.mono x hx),fun t ht=>h'.text t (h.text t ht)⟩
theorem actC1_ok (hk:kW k) {c:Cs} (h:GC k c) (s:St) (a:Int):ActR k c (actC1 k s c a):=by
 unfold actC1
 split
 ·rename_i hs
  have:=h.meet (validS_step hk hs)
  exact⟨this.1,meetC_len.1,fun x hx=>meetC_mono hx,meetC_len.2.2.2⟩
 ·exact ActR.refl h
theorem acts_ok (hk:kW k) (s:St):∀(l:List Int) {c:Cs},GC k c→ActR k c (l.foldl (actC1 k s) c)
 |[],_,h=>ActR.refl h
 |a::l,c,h=>(actC1_ok hk h s a).trans (acts_ok hk s l (actC1_ok hk h s a).gc)
theorem acts_found (hk:kW k) (s:St):∀(l:List Int) {c:Cs},GC k c→∀a∈l,(stepS k s a).2=0→(stepS k s a).1∈(l.foldl (actC1 k s) c).1
 |b::l,c,h,a,ha,hs=>by
  rcases List.mem_cons.1 ha with rfl|ha
  ·refine(acts_ok hk s l (actC1_ok hk h s a).gc).mono _ ?_
   unfold actC1
   rw[if_pos hs]
   exact(h.meet (validS_step hk hs)).2
  ·exact acts_found hk s l (actC1_ok hk h s b).gc a ha hs
theorem filter_one {l:List St} (hn:(l.map encT).Nodup) {t:List UInt8} (ht:t∈l.map encT):(l.filter fun y=>!(encT y==t)).length+1=l.length:=by
 induction l with
 |nil=>simp at ht
 |cons x l ih=>
  rw[List.map_cons,List.nodup_cons] at hn
  by_cases hx:encT x=t
  ·have:l.filter (fun y=>!(encT y==t))=l:=by
    rw[List.filter_eq_self]
    intro y hy
    have:encT y≠t:=fun e=>hn.1 (by rw[hx,←e];exact List.mem_map.2 ⟨y,hy,rfl⟩)
    simp[this]
   rw[List.filter_cons_of_neg (by simp[hx]),this,List.length_cons]
  ·rw[List.map_cons,List.mem_cons] at ht
   have:=ih hn.2 (ht.resolve_left (fun e=>hx e.symm))
   rw[List.filter_cons_of_pos (by simp[hx]),List.length_cons,List.length_cons]
   omega
theorem GC.drop {c:Cs} (h:GC k c) (t:List UInt8):GC k (c.1,c.2.filter fun y=>!(encT y==t)):=by
 refine⟨h.valid,h.nodup,?_,fun s hs=>h.sub s ((List.mem_filter.1 hs).1)⟩
 exact(List.filter_sublist.map encT).nodup h.fnodup
theorem popC_ok (hk:kW k) {c:Cs} (h:GC k c) {t:List UInt8} (ht:t∈c.2.map encT):GC k (popC k p c t)∧(popC k p c t).1.length+c.2.length=(popC k p c t).2.length+1+c.1.length∧(∀x∈c.1,x∈(popC k p c t).1)∧
  (∀u∈c.2.map encT,u≠t→u∈(popC k p c t).2.map encT):=by
 have hf:=filter_one h.fnodup ht
 have hd:=h.drop t
 have hu:∀u∈c.2.map encT,u≠t→u∈(c.2.filter fun y=>!(encT y==t)).map encT:=fun u hu hne=>by
  obtain⟨y,hy,rfl⟩:=List.mem_map.1 hu
  exact List.mem_map.2 ⟨y,List.mem_filter.2 ⟨hy,by simp[hne]⟩,rfl⟩
 unfold popC
 split
 ·exact⟨hd,by show c.1.length+_=(c.2.filter _).length+1+_;omega,fun x hx=>hx,hu⟩
 ·have:=acts_ok hk (getS c.2 (encStr t)) (hidL k (getS c.2 (encStr t)) p k.acts.length) hd
  have hl:=this.len
  dsimp only at hl
  exact⟨this.gc,by omega,this.mono,fun u h1 h2=>this.text u (hu u h1 h2)⟩
theorem txL_nodup {l:List St} (h:(l.map encT).Nodup):(txL l).Nodup:=(sortB_perm _).nodup_iff.2 h
theorem txL_mem {l:List St} {t:List UInt8}:t∈txL l↔t∈l.map encT:=(sortB_perm _).mem_iff
structure RI (k:K) (p:Int) (T:List (List UInt8)) (c:Cs) (j:Nat):Prop where
 gc:GC k (rndC k p T c j).1
 len:(rndC k p T c j).2=false→(rndC k p T c j).1.1.length+c.2.length=(rndC k p T c j).1.2.length+j+c.1.length
 mono:∀x∈c.1,x∈(rndC k p T c j).1.1
 text:(rndC k p T c j).2=false→∀i,j≤i→i<T.length→T.getD i []∈(rndC k p T c j).1.2.map encT
 lim:(rndC k p T c j).2=false→(rndC k p T c j).1.1.length≤(rndC k p T c j).1.2.length+301∨j=0
theorem getD_inj {T:List (List UInt8)} (hn:T.Nodup) {i j:Nat} (hi:i<T.length) (hj:j<T.length) (h:T.getD i []=T.getD j []):i=j:=by
 rw[List.getD_eq_getElem?_getD,List.getD_eq_getElem?_getD,List.getElem?_eq_getElem hi,List.getElem?_eq_getElem hj] at h
 exact(List.getElem?_inj hi hn).1 (by rw[List.getElem?_eq_getElem hi,List.getElem?_eq_getElem hj];exact congrArg some h)
theorem rnd_ok (hk:kW k) {c:Cs} (h:GC k c):∀j,j≤(txL c.2).length→RI k p (txL c.2) c j
 |0,_=>⟨h,fun _=>by show c.1.length+_=c.2.length+0+_;omega,fun x hx=>hx,fun _ i _ hi=>txL_mem.1 (by
   rw[List.getD_eq_getElem?_getD,List.getElem?_eq_getElem hi];exact List.getElem_mem hi),fun _=>.inr rfl⟩
 |j+1,hj=>by
  have ih:=rnd_ok hk h j (by omega)
  have hT:=txL_nodup h.fnodup
  by_cases he:(rndC k p (txL c.2) c j).2=true
  ·have e:rndC k p (txL c.2) c (j+1)=rndC k p (txL c.2) c j:=by rw[rndC,if_pos he]
   exact⟨by rw[e];exact ih.gc,(fun q=>by rw[e,he] at q;cases q),by rw[e];exact ih.mono,(fun q=>by rw[e,he] at q;cases q),(fun q=>by rw[e,he] at q;cases q)⟩
  ·have he:(rndC k p (txL c.2) c j).2=false:=by simpa using he
   by_cases hl:300<(rndC k p (txL c.2) c j).1.1.length
   ·have e:rndC k p (txL c.2) c (j+1)=((rndC k p (txL c.2) c j).1,true):=by rw[rndC,if_neg (by rw[he];simp),if_pos hl]
    exact⟨by rw[e];exact ih.gc,(fun q=>by rw[e] at q;cases q),by rw[e];exact ih.mono,(fun q=>by rw[e] at q;cases q),(fun q=>by rw[e] at q;cases q)⟩
   ·have e:rndC k p (txL c.2) c (j+1)=(popC k p (rndC k p (txL c.2) c j).1 ((txL c.2).getD j []),false):=by rw[rndC,if_neg (by rw[he];simp),if_neg hl]
    have hj':j<(txL c.2).length:=by omega
    obtain⟨q1,q2,q3,q4⟩:=popC_ok (p:=p) hk ih.gc (ih.text he j (Nat.le_refl _) hj')
    have hlen:=ih.len he
    refine⟨by rw[e];exact q1,fun _=>?_,fun x hx=>by rw[e];exact q3 x (ih.mono x hx),fun _ i h1 h2=>?_,fun _=>.inl ?_⟩
    ·rw[e];dsimp only;omega
    ·rw[e]
     exact q4 _ (ih.text he i (by omega) h2) fun q=>by
      have:=getD_inj hT h2 hj' q
      omega
    ·rw[e];dsimp only;omega
theorem out_gc (hk:kW k) {c:Cs} (h:GC k c):∀n,GC k (outC k p c n).1∧∀x∈c.1,x∈(outC k p c n).1.1
 |0=>⟨h,fun x hx=>hx⟩
 |n+1=>by
  obtain⟨h1,h2⟩:=out_gc hk h n
  rw[outC]
  split
  ·exact⟨h1,h2⟩
  ·have:=rnd_ok (p:=p) hk h1 _ (Nat.le_refl _)
   exact⟨this.gc,fun x hx=>this.mono x (h2 x hx)⟩
def dn (c:Cs):Nat:=c.1.length -c.2.length
theorem GC.dle {c:Cs} (h:GC k c):c.2.length≤c.1.length:=by
 have:=nodup_len h.fnodup (r:=c.1.map encT) fun t ht=>by
  obtain⟨y,hy,rfl⟩:=List.mem_map.1 ht
  exact List.mem_map.2 ⟨y,h.sub y hy,rfl⟩
 simpa using this
theorem out_step (hk:kW k) {c:Cs} (h:GC k c) {n:Nat} (he:(outC k p c n).2=false) (hne:(outC k p c n).1.2≠[]) (he2:(outC k p c (n+1)).2=false):dn (outC k p c n).1<dn (outC k p c (n+1)).1∧dn (outC k p c (n+1)).1≤301:=by
 obtain⟨h1,_⟩:=out_gc (p:=p) hk h n
 have e:outC k p c (n+1)=rndC k p (txL (outC k p c n).1.2) (outC k p c n).1 (txL (outC k p c n).1.2).length:=by
  rw[outC,if_neg (by rw[he];simpa using hne)]
 have hr':=rnd_ok (p:=p) hk h1 (txL (outC k p c n).1.2).length (Nat.le_refl _)
 have hlen:=hr'.len (by rw[←e];exact he2)
 have hlim:=hr'.lim (by rw[←e];exact he2)
 rw[←e] at hlen hlim
 have hpos:0<(txL (outC k p c n).1.2).length:=by
  unfold txL
  rw[sortB_len,List.length_map]
  exact List.length_pos_iff.2 hne
 have h2:=(out_gc (p:=p) hk h (n+1)).1.dle
 have h3:=h1.dle
 unfold dn
 omega
theorem out_stop {c:Cs} {n:Nat} (h:(outC k p c n).2=true∨(outC k p c n).1.2=[]):∀m,n≤m→outC k p c m=outC k p c n:=by
 intro m hm
 induction m with
 |zero=>have:n=0:=by omega
        rw[this]
 |succ m ih=>
  by_cases h1:n=m+1
  ·rw[h1]
  ·have h2:=ih (by omega)
   rw[outC,if_pos (by rw[h2];exact h),h2]
end
end
section
open Go.Eng Go.RowKit Go.Lib
theorem fV_enc (f:List UInt8→Option Nat) (t:List UInt8):fV f (encStr t)=f t:=by
 unfold fV encStr
 simp
theorem fO_put (f:List UInt8→Option Nat) (t:List UInt8) (j:Nat) (v:Value) (hv:KK.str.has v=true):(fV (fun u=>if u=t then some j else f u) v).isSome=(keyEq v (encStr t)||(fV f v).isSome)∧
  AvIs (bif keyEq v (encStr t) then .c (.int .i64 (j:Nat)) else .c (.int .i64 (((fV f v).getD 0:Nat)))) (.c (.int .i64 (((fV (fun u=>if u=t then some j else f u) v).getD 0:Nat)))):=by
 cases v<;>simp[KK.has,LK.has] at hv
 rename_i b
 have e:Value.string b=encStr b.data.toList:=by simp[encStr]
 rw[e,keyEq_enc,fV_enc,fV_enc]
 by_cases h:b.data.toList=t
 ·rw[if_pos h,show(b.data.toList==t)=true by simp[h]]
  exact⟨rfl,AvIs.refl _⟩
 ·rw[if_neg h,show(b.data.toList==t)=false by simp[h]]
  exact⟨by simp,AvIs.refl _⟩
theorem fO_new (t:List UInt8) (v:Value) (hv:KK.str.has v=true):(fV (fun u=>if u=t then some 0 else none) v).isSome=(keyEq v (encStr t)||false)∧
  AvIs (bif keyEq v (encStr t) then .c (.int .i64 0) else .c (.int .i64 0)) (.c (.int .i64 (((fV (fun u=>if u=t then some 0 else none) v).getD 0:Nat)))):=by
 have h:=fO_put (fun _=>none) t 0 v hv
 have e:fV (fun _=>none) v=none:=by cases v<;>rfl
 rw[e] at h
 exact h
def addL (s:FS) (m:Int×Ps):FS:=if s.2=true then s else if s.1.fnd (txA m.2)=none∧s.1.ps.length=1500 then(s.1,true) else(addE s.1 m,false)
theorem addL_stop {s:FS} (h:s.2=true) (l:List (Int×Ps)):l.foldl addL s=s:=by
 induction l with
 |nil=>rfl
 |cons m l ih=>
  rw[List.foldl_cons,show addL s m=s by unfold addL;rw[if_pos h]]
  exact ih
theorem addE_len (s:Ex) (m:Int×Ps):s.ps.length≤(addE s m).ps.length∧(addE s m).ps.length≤s.ps.length+1∧(addE s m).cur.length=s.cur.length+1:=by
 unfold addE
 split
 ·exact⟨Nat.le_refl _,Nat.le_succ _,by simp⟩
 ·exact⟨by simp,by simp,by simp⟩
theorem addEs_len (l:List (Int×Ps)):∀s:Ex,s.ps.length≤(l.foldl addE s).ps.length:=by
 induction l with
 |nil=>exact fun s=>Nat.le_refl _
 |cons m l ih=>exact fun s=>Nat.le_trans (addE_len s m).1 (ih (addE s m))
theorem addL_all (l:List (Int×Ps)):∀(s:Ex),s.ps.length≤1500→(l.foldl addL (s,false)).1.ps.length≤1500∧(((l.foldl addE s).ps.length≤1500→l.foldl addL (s,false)=(l.foldl addE s,false))∧(¬(l.foldl addE s).ps.length≤1500→(l.foldl addL (s,false)).2=true)):=by
 induction l with
 |nil=>exact fun s h=>⟨h,fun _=>rfl,fun q=>absurd h q⟩
 |cons m l ih=>
  intro s h
  rw[List.foldl_cons,List.foldl_cons]
  by_cases hc:s.fnd (txA m.2)=none∧s.ps.length=1500
  ·have e:addL (s,false) m=(s,true):=by unfold addL;rw[if_neg (by simp),if_pos hc]
   rw[e,addL_stop rfl]
   have h1:(addE s m).ps.length=1501:=by
    unfold addE
    rw[hc.1]
    simp[hc.2]
   have:=addEs_len l (addE s m)
   exact⟨h,fun q=>by omega,fun _=>rfl⟩
  ·have e:addL (s,false) m=(addE s m,false):=by unfold addL;rw[if_neg (by simp),if_neg hc]
   rw[e]
   refine ih _ ?_
   have h1:=addE_len s m
   by_cases h2:s.ps.length=1500
   ·have h3:s.fnd (txA m.2)≠none:=fun q=>hc ⟨q,h2⟩
    unfold addE
    cases h4:s.fnd (txA m.2) with
    |none=>exact absurd h4 h3
    |some t=>exact h
   ·omega
theorem addL_cur (l:List (Int×Ps)):∀(s:FS),(l.foldl addL s).1.cur.length≤s.1.cur.length+l.length:=by
 induction l with
 |nil=>exact fun s=>Nat.le_refl _
 |cons m l ih=>
  intro s
  have h1:=ih (addL s m)
  have h2:(addL s m).1.cur.length≤s.1.cur.length+1:=by
   unfold addL
   split
   ·omega
   ·split
    ·show s.1.cur.length≤_;omega
    ·have:=addE_len s.1 m
     show(addE s.1 m).cur.length≤_;omega
  rw[List.foldl_cons,List.length_cons]
  omega
noncomputable def roundR (k:K) (p:Int) (s:ArS) (i:Nat):FS:=(mvS k p (psAt s.1.ps i)).foldl addL ({s.1 with cur:=[]},false)
noncomputable def frRun (k:K) (p:Int) (x:Ps):Nat→Nat→ArS×Bool
 |0,i=>(arT k p x i,true)
 |f+1,i=>if(arT k p x i).1.ps.length≤i then(arT k p x i,false) else if 1500<(arT k p x (i+1)).1.ps.length then(arT k p x i,true) else frRun k p x f (i+1)
noncomputable def fromR (k:K) (p:Int) (x:Ps):ArS×Bool:=frRun k p x 1502 0
theorem arT_grow (k:K) (p:Int) (x:Ps) (i:Nat):(arT k p x i).1.ps.length≤(arT k p x (i+1)).1.ps.length:=addEs_len _ {(arT k p x i).1 with cur:=[]}
theorem round_ok {k:K} {p:Int} {x:Ps} {i:Nat} (h:(arT k p x i).1.ps.length≤1500):(¬1500<(arT k p x (i+1)).1.ps.length→roundR k p (arT k p x i) i=((arT k p x (i+1)).1,false))∧(1500<(arT k p x (i+1)).1.ps.length→(roundR k p (arT k p x i) i).2=true):=by
 obtain⟨-,h1,h2⟩:=addL_all (mvS k p (psAt (arT k p x i).1.ps i)) {(arT k p x i).1 with cur:=[]} h
 exact⟨fun q=>h1 (Nat.le_of_not_lt q),fun q=>h2 (Nat.not_le_of_lt q)⟩
theorem frRun_ok {k:K} {p:Int} {x:Ps}:∀f i,1501<f+i→(∀j,j<i→j<(arT k p x j).1.ps.length)→(arT k p x i).1.ps.length≤1500→i≤(arT k p x i).1.ps.length→
  ((frRun k p x f i).2=false→∃n,(frRun k p x f i).1=arT k p x n∧n=(arT k p x n).1.ps.length∧(∀j,j<n→j<(arT k p x j).1.ps.length)∧n≤1500)∧
  ((frRun k p x f i).2=true→∃n,(∀j,j<n→j<(arT k p x j).1.ps.length)∧1500<(arT k p x n).1.ps.length)
 |0,i,h,_,hl,hi=>by omega
 |f+1,i,h,hj,hl,hi=>by
  rw[frRun]
  split
  ·rename_i q
   exact⟨fun _=>⟨i,rfl,by omega,hj,by omega⟩,fun q=>by cases q⟩
  ·rename_i q
   have hj':∀j,j<i+1→j<(arT k p x j).1.ps.length:=fun j h=>by
    by_cases e:j=i
    ·subst e;omega
    ·exact hj j (by omega)
   split
   ·rename_i q2
    exact⟨fun q=>by(cases q),fun _=>⟨i+1,hj',q2⟩⟩
   ·rename_i q2
    have:=arT_grow k p x i
    exact frRun_ok f (i+1) (by omega) hj' (by omega) (by omega)
theorem fromR_ok (k:K) (p:Int) (x:Ps):
  ((fromR k p x).2=false→∃n,(fromR k p x).1=arT k p x n∧n=(arT k p x n).1.ps.length∧(∀j,j<n→j<(arT k p x j).1.ps.length)∧n≤1500)∧
  ((fromR k p x).2=true→∃n,(∀j,j<n→j<(arT k p x j).1.ps.length)∧1500<(arT k p x n).1.ps.length):=
 frRun_ok 1502 0 (by omega) (fun j h=>absurd h (Nat.not_lt_zero _)) (by show 1≤1500;omega) (Nat.zero_le _)
end
section
open Go.Eng Go.RowKit Go.Lib Go.Sort
section
variable {k:K} {p:Int}
def Prc (k:K) (p:Int) (F:List St) (s:St):Prop:=k.days≤s.day∨∀a∈hidL k s p k.acts.length,(stepS k s a).2=0→(stepS k s a).1∈F
def CL (k:K) (p:Int) (c:Cs):Prop:=∀s∈c.1,s∈c.2∨Prc k p c.1 s
theorem Prc.mono {F F':List St} {s:St} (h:Prc k p F s) (hF:∀x∈F,x∈F'):Prc k p F' s:=h.imp id fun h a ha hs=>hF _ (h a ha hs)
theorem act_new (k:K) (s:St):∀(l:List Int) (c:Cs),(∀x∈(l.foldl (actC1 k s) c).1,x∈c.1∨x∈(l.foldl (actC1 k s) c).2)∧∀x∈c.2,x∈(l.foldl (actC1 k s) c).2
 |[],c=>⟨fun x hx=>.inl hx,fun x hx=>hx⟩
 |a::l,c=>by
  obtain⟨h1,h2⟩:=act_new k s l (actC1 k s c a)
  have hm:(∀x∈(actC1 k s c a).1,x∈c.1∨x∈(actC1 k s c a).2)∧∀x∈c.2,x∈(actC1 k s c a).2:=by
   unfold actC1 meetC
   split
   ·split
    ·exact⟨fun x hx=>.inl hx,fun x hx=>hx⟩
    ·exact⟨fun x hx=>by
      rcases List.mem_cons.1 hx with rfl|hx
      ·exact .inr List.mem_cons_self
      ·exact .inl hx,fun x hx=>List.mem_cons_of_mem _ hx⟩
   ·exact⟨fun x hx=>.inl hx,fun x hx=>hx⟩
  refine⟨fun x hx=>?_,fun x hx=>h2 x (hm.2 x hx)⟩
  rcases h1 x hx with q|q
  ·rcases hm.1 x q with q|q
   ·exact .inl q
   ·exact .inr (h2 x q)
  ·exact .inr q
theorem popC_cl (hk:kW k) {c:Cs} (h:GC k c) (hc:CL k p c) {t:List UInt8} (ht:t∈c.2.map encT):CL k p (popC k p c t):=by
 obtain⟨y,hy,rfl⟩:=List.mem_map.1 ht
 have hg:getS c.2 (encStr (encT y))=y:=getS_at h.fnodup hy
 have hd:=h.drop (encT y)
 have hkeep:∀x∈c.2,x=y∨x∈c.2.filter fun z=>!(encT z==encT y):=fun x hx=>by
  by_cases e:encT x=encT y
  ·left
   exact encT_inj (valid_len (h.fvalid x hx) (h.fvalid y hy)) e
  ·exact .inr (List.mem_filter.2 ⟨hx,by simp[e]⟩)
 unfold popC
 rw[hg]
 split
 ·rename_i hday
  intro s hs
  rcases hc s hs with q|q
  ·rcases hkeep s q with rfl|q
   ·exact .inr (.inl hday)
   ·exact .inl q
  ·exact .inr q
 ·have ha:=acts_ok hk y (hidL k y p k.acts.length) hd
  obtain⟨n1,n2⟩:=act_new k y (hidL k y p k.acts.length) (c.1,c.2.filter fun z=>!(encT z==encT y))
  intro s hs
  rcases n1 s hs with q|q
  ·rcases hc s q with q|q
   ·rcases hkeep s q with rfl|q
    ·exact .inr (.inr fun a ha hst=>acts_found hk s _ hd a ha hst)
    ·exact .inl (n2 s q)
   ·exact .inr (q.mono ha.mono)
  ·exact .inl q
theorem rnd_cl (hk:kW k) {c:Cs} (h:GC k c) (hc:CL k p c):∀j,j≤(txL c.2).length→CL k p (rndC k p (txL c.2) c j).1
 |0,_=>hc
 |j+1,hj=>by
  have ih:=rnd_cl hk h hc j (by omega)
  have hr:=rnd_ok (p:=p) hk h j (by omega)
  rw[rndC]
  split
  ·exact ih
  ·rename_i he
   split
   ·exact ih
   ·exact popC_cl hk hr.gc ih (hr.text (by simpa using he) j (Nat.le_refl _) (by omega))
theorem out_cl (hk:kW k) {c:Cs} (h:GC k c) (hc:CL k p c):∀n,CL k p (outC k p c n).1
 |0=>hc
 |n+1=>by
  have ih:=out_cl hk h hc n
  rw[outC]
  split
  ·exact ih
  ·exact rnd_cl hk (out_gc hk h n).1 ih _ (Nat.le_refl _)
theorem beg_ok:∀(l:List St) (c:Cs),(∀s∈l,validS k s=true)→GC k c→CL k p c→GC k (l.foldl meetC c)∧CL k p (l.foldl meetC c)∧(∀s∈l,s∈(l.foldl meetC c).1)∧∀s∈c.1,s∈(l.foldl meetC c).1
 |[],c,_,h,hc=>⟨h,hc,(fun s hs=>by cases hs),fun s hs=>hs⟩
 |x::l,c,hl,h,hc=>by
  obtain⟨h1,h2⟩:=h.meet (hl x List.mem_cons_self)
  have hc1:CL k p (meetC c x):=by
   unfold meetC
   split
   ·exact hc
   ·intro s hs
    rcases List.mem_cons.1 hs with rfl|hs
    ·exact .inl List.mem_cons_self
    ·rcases hc s hs with q|q
     ·exact .inl (List.mem_cons_of_mem _ q)
     ·exact .inr (q.mono fun x hx=>List.mem_cons_of_mem _ hx)
  obtain⟨r1,r2,r3,r4⟩:=beg_ok l (meetC c x) (fun s hs=>hl s (List.mem_cons_of_mem _ hs)) h1 hc1
  refine⟨r1,r2,fun s hs=>?_,fun s hs=>r4 s (meetC_mono hs)⟩
  rcases List.mem_cons.1 hs with rfl|hs
  ·exact r4 _ h2
  ·exact r3 s hs
theorem fin_end (hk:kW k) {c:Cs} (h:GC k c):(outC k p c 400).2=true∨(outC k p c 400).1.2=[]:=by
 have key:∀n,((outC k p c n).2=true∨(outC k p c n).1.2=[])∨((outC k p c n).2=false∧n≤dn (outC k p c n).1∧(n=0∨dn (outC k p c n).1≤301)):=by
  intro n
  induction n with
  |zero=>exact(Classical.em _).imp id fun q=>⟨rfl,Nat.zero_le _,.inl rfl⟩
  |succ n ih=>
   rcases ih with q|⟨q1,q2,q3⟩
   ·left
    have:=out_stop q (n+1) (Nat.le_succ n)
    rw[this];exact q
   ·by_cases hr:(outC k p c n).1.2=[]
    ·left
     have:=out_stop (.inr hr) (n+1) (Nat.le_succ n)
     rw[this];exact .inr hr
    ·cases he:(outC k p c (n+1)).2 with
     |true=>exact .inl (.inl rfl)
     |false=>
      have:=out_step (p:=p) hk h q1 hr he
      exact .inr ⟨rfl,by omega,.inr this.2⟩
 rcases key 400 with q|⟨_,q2,q3⟩
 ·exact q
 ·omega
theorem tx_at {l:List St} (hn:(l.map encT).Nodup) {s:St}:s∈(txL l).map (fun t=>getS l (encStr t))↔s∈l:=by
 constructor
 ·intro h
  obtain⟨t,ht,rfl⟩:=List.mem_map.1 h
  obtain⟨y,hy,rfl⟩:=List.mem_map.1 (txL_mem.1 ht)
  have:=getS_at hn hy
  rw[encV] at this
  rw[this];exact hy
 ·intro h
  exact List.mem_map.2 ⟨encT s,txL_mem.2 (List.mem_map.2 ⟨s,h,rfl⟩),getS_at hn h⟩
theorem clos_facts (hk:kW k) {l:List St} (hl:∀s∈l,validS k s=true) (h0:(closR k p l).2=0):
  (∀s∈l,s∈(closR k p l).1)∧(∀s∈(closR k p l).1,validS k s=true)∧(∀s∈(closR k p l).1,∀a:Nat,a<k.acts.length→hidB k s p a=true→s.day<k.days→(stepS k s (a:Int)).2=0→(stepS k s (a:Int)).1∈(closR k p l).1)∧(closR k p l).1.length≤300:=by
 obtain⟨b1,b2,b3,-⟩:=beg_ok (k:=k) (p:=p) l ([],[]) hl (GC.nil k) (fun s hs=>by cases hs)
 obtain⟨g1,g2⟩:=out_gc (p:=p) hk b1 400
 have hcl:=out_cl (p:=p) hk b1 b2 400
 have hend:=fin_end (p:=p) hk b1
 unfold closR at h0 ⊢
 split at h0
 ·cases h0
 ·rename_i hne
  rw[if_neg hne]
  have hne:¬((outC k p (begC l) 400).2=true∨300<(outC k p (begC l) 400).1.1.length):=hne
  have hR:(outC k p (begC l) 400).1.2=[]:=hend.resolve_left fun q=>hne (.inl q)
  have hlen:¬300<(outC k p (begC l) 400).1.1.length:=fun q=>hne (.inr q)
  unfold finC
  refine⟨fun s hs=>(tx_at g1.nodup).2 (g2 s (b3 s hs)),fun s hs=>g1.valid s ((tx_at g1.nodup).1 hs),fun s hs a ha hh hd hst=>?_,?_⟩
  ·have hs:=(tx_at g1.nodup).1 hs
   refine(tx_at g1.nodup).2 ?_
   rcases hcl s hs with q|q|q
   ·have q:s∈(outC k p (begC l) 400).1.2:=q
    rw[hR] at q;cases q
   ·omega
   ·exact q a (hidL_mem.2 ⟨a,ha,rfl,hh⟩) hst
  ·show(List.map _ _).length≤_
   unfold txL
   rw[List.length_map,sortB_len,List.length_map]
   omega
theorem act_len (k:K) (s:St):∀(l:List Int) (c:Cs),(l.foldl (actC1 k s) c).1.length≤c.1.length+l.length
 |[],c=>by simp
 |a::l,c=>by
  have h1:=act_len k s l (actC1 k s c a)
  have h2:(actC1 k s c a).1.length≤c.1.length+1:=by
   unfold actC1
   split
   ·exact meetC_len.2.2.1
   ·omega
  rw[List.foldl_cons,List.length_cons]
  omega
theorem rnd_len (hna:k.acts.length≤60) (T:List (List UInt8)) (c:Cs):∀j,(rndC k p T c j).1.1.length≤c.1.length+60*j
 |0=>by show c.1.length≤_;omega
 |j+1=>by
  have ih:=rnd_len hna T c j
  rw[rndC]
  split
  ·omega
  ·split
   ·dsimp only;omega
   ·dsimp only
    have h2:(popC k p (rndC k p T c j).1 (T.getD j [])).1.length≤(rndC k p T c j).1.1.length+60:=by
     unfold popC
     split
     ·dsimp only;omega
     ·have:=act_len k (getS (rndC k p T c j).1.2 (encStr (T.getD j []))) (hidL k (getS (rndC k p T c j).1.2 (encStr (T.getD j []))) p k.acts.length) ((rndC k p T c j).1.1,(rndC k p T c j).1.2.filter fun y=>!(encT y==T.getD j []))
      have h3:=hidL_len k (getS (rndC k p T c j).1.2 (encStr (T.getD j []))) p k.acts.length
      dsimp only at this
      omega
    omega
theorem out_len (hk:kW k) (hna:k.acts.length≤60) {c:Cs} (h:GC k c):∀n,(outC k p c n).2=false→(outC k p c n).1.1.length≤c.1.length+60*dn (outC k p c n).1
 |0,_=>by show c.1.length≤_;omega
 |n+1,he=>by
  rw[outC] at he ⊢
  split
  ·rename_i hs
   rw[if_pos hs] at he
   exact out_len hk hna h n he
  ·rename_i hs
   rw[if_neg hs] at he
   have hs1:(outC k p c n).2=false:=by
    cases hq:(outC k p c n).2 with
    |true=>exact absurd (.inl hq) hs
    |false=>rfl
   have ih:=out_len hk hna h n hs1
   have hg:=(out_gc (p:=p) hk h n).1
   have hr:=rnd_ok (p:=p) hk hg _ (Nat.le_refl _)
   have h1:=rnd_len (p:=p) hna (txL (outC k p c n).1.2) (outC k p c n).1 (txL (outC k p c n).1.2).length
   have h2:=hr.len he
   have h3:=hg.dle
   have h4:=hr.gc.dle
   unfold dn at ih ⊢
   omega
theorem out_small (hk:kW k) (hna:k.acts.length≤60) {c:Cs} (h:GC k c) (hc:c.1.length≤1000) {n:Nat} (he:(outC k p c n).2=false) (hn:n=0∨dn (outC k p c n).1≤301):(outC k p c n).1.1.length≤20000:=by
 rcases hn with rfl|hn
 ·show c.1.length≤_;omega
 ·have:=out_len (p:=p) hk hna h n he
  omega
theorem beg_len:∀(l:List St) (c:Cs),(l.foldl meetC c).1.length≤c.1.length+l.length
 |[],c=>by simp
 |a::l,c=>by
  have h1:=beg_len l (meetC c a)
  have h2:(meetC c a).1.length≤c.1.length+1:=meetC_len.2.2.1
  rw[List.foldl_cons,List.length_cons]
  omega
theorem rnd_stop {T:List (List UInt8)} {c:Cs} {j:Nat} (h:(rndC k p T c j).2=true):∀m,j≤m→rndC k p T c m=rndC k p T c j:=by
 intro m hm
 induction m with
 |zero=>have:j=0:=by omega
        rw[this]
 |succ m ih=>
  by_cases h1:j=m+1
  ·rw[h1]
  ·have h2:=ih (by omega)
   rw[rndC,if_pos (by rw[h2];exact h),h2]
end
end
section
open Go.Eng Go.RowKit Go.Lib Go.Sort
theorem by_dot (L:List UInt8) (z:Int) (g:Nat→List AV) (hg:g 0=byC 46):∀i,i<L.length+1+(itoa z).length→byC ((L++46::itoa z).getD i 0)=catF (L.length+1) (catF L.length (fun i=>byC (L.getD i 0)) g) (itoaF z) i:=by
 intro i hi
 have e:L++46::itoa z=(L++[46])++itoa z:=by simp
 rw[e,by_app (L++[46]) (itoa z) (itoaF z) (fun _ _=>rfl) i (by simp;omega)]
 unfold catF
 rw[List.length_append,List.length_singleton]
 by_cases h1:i<L.length+1
 ·rw[blt_yes h1,cond_true,cond_true]
  exact by_app1 L 46 g hg i h1
 ·rw[blt_no (by omega)];rfl
def jnE:List Int→List UInt8
 |[]=>[]
 |a::l=>itoa a++cutL (fun z=>46::itoa z) l
theorem jnE_succ {l:List Int} {i:Nat} (h0:0<i) (h:i<l.length):jnE (l.take (i+1))=jnE (l.take i)++46::itoa (l.getD i default):=by
 cases l with
 |nil=>cases h
 |cons a l=>
  obtain⟨j,rfl⟩:∃j,i=j+1:=⟨i-1,by omega⟩
  simp only[List.take_succ_cons,jnE]
  rw[cutL_succ _ l j (by simpa using h),List.append_assoc]
  simp[List.getD]
theorem jnE_one {l:List Int} (h:0<l.length):jnE (l.take 1)=itoa (l.getD 0 default):=by
 cases l with
 |nil=>cases h
 |cons a l=>simp[jnE,cutL,List.getD]
theorem jnE_len {l:List Int} (hl:∀x∈l,inK .i64 x):(jnE l).length≤22*l.length:=by
 cases l with
 |nil=>exact Nat.zero_le _
 |cons a l=>
  have h1:=itoa_short (hl a List.mem_cons_self)
  have h2:=cutL_len (fun z=>46::itoa z) 22 l fun x hx=>by
   have:=itoa_short (hl x (List.mem_cons_of_mem _ hx))
   simp;omega
  simp only[jnE,List.length_append,List.length_cons]
  omega
theorem wr_ok (l:List Int) (hl:∀x∈l,inK .i64 x) (hll:l.length≤100) (L:List UInt8) (hL:L.length≤800000):
  DoesM Tryz.prog 111 [.vec 0 0,intsV l] [bO 0 L] (.vec 0 2) [bO 2 (L++jnE l)]:=by
 refine DoesM.mk (fun _=>false) 100 TT_ok Tryz.func111 rfl (by kernel_rfl) Tryz.ntmps111 rfl rfl rfl fun E hT hE hN hR=>?_
 have hm:=mixO hE
 unfold bO
 refine XK.weak (Weak.steal 700 (k:=0) (s:=0) (f':=fun _=>[]) hN rfl rfl rfl) ?_
 refine XK.w ?_
 refine XK.loop (ι:=Nat) (fun i=>ST.of [(0,.vec 700 0),(7,intsV l),(8,.c (.int .i64 (l.length:Nat))),(9,.c (.int .i64 i))] [(0,.vec 5 1 1 0 (fun _=>[])),(700,bO 0 (L++jnE (l.take i)))] 1000 24 (fun _=>false))
  (fun i=>i≤l.length) (fun i=>l.length-i) 0 (Nat.zero_le _) (by rw[List.take_zero,show jnE []=[] from rfl,List.append_nil];exact Weak.of hN rfl rfl rfl frV frI) fun i hi=>?_
 have hjl:=jnE_len (l:=l.take i) fun x hx=>hl x (List.mem_of_mem_take hx)
 rw[List.length_take] at hjl
 refine XK.c ?_ ?_<;>intro hlt<;>try simp at hlt
 ·have hlt:i<l.length:=by omega
  have fx:l.getD (i:Int).toNat default=l.getD i default:=rfl
  have hz:inK .i64 (l.getD i default):=by
   rw[List.getD_eq_getElem?_getD,List.getElem?_eq_getElem hlt]
   exact hl _ (List.getElem_mem hlt)
  have hz2:=hz
  simp only[inK] at hz2
  by_cases h0:i=0
  ·subst h0
   have e1:=jnE_one hlt
   have hc:=appendInt_ok (l.getD 0 default) hz2.1 hz2.2 (L++jnE (l.take 0)).length (by rw[show jnE (l.take 0)=[] from rfl];(try simp only[List.length_append,List.length_nil]);omega) (fun i=>byC ((L++jnE (l.take 0)).getD i 0))
   have hb:=by_app (L++jnE (l.take 0)) (itoa (l.getD 0 default)) (itoaF (l.getD 0 default)) (fun _ _=>rfl)
   have e2:L++jnE (l.take (0+1))=(L++jnE (l.take 0))++itoa (l.getD 0 default):=by rw[Nat.zero_add,e1,show jnE (l.take 0)=[] from rfl,List.append_nil]
   refine XK.w ?_
   rw[fx]
   generalize l.getD 0 default=z at*
   refine XK.c ?_ ?_<;>intro h1<;>try simp at h1
   refine XK.w ?_
   refine XK.r ?_
   refine XL.callMA [700] hE rfl rfl rfl rfl trivial (hc) rfl rfl rfl rfl rfl ?_
   refine XL.e ?_
   refine XK.inv ⟨0+1,hlt,?_,by omega⟩
   rw[e2]
   have hln:((L++jnE (l.take 0))++itoa z).length=(L++jnE (l.take 0)).length+(itoa z).length:=List.length_append
   rw[hln] at hb
   refine Weak.trans (Weak.stamp (k:=700) (t:=0) hN rfl rfl) (Weak.of hN rfl rfl rfl frV ?_)
   unfold bO
   rw[hln]
   (repeat' (first|exact rfl|exact AvIs.refl _|exact trivial|exact fun _ _=>rfl|exact fun _ _=>⟨rfl,AvIs.refl _⟩|exact cI (by omega)|exact(hb)|refine⟨?_,?_⟩))
  ·have e2:=jnE_succ (show 0<i by omega) hlt
   have hcc:∀n,n≤999999→∀f,_:=fun n hn f=>appendInt_ok (l.getD i default) hz2.1 hz2.2 n hn f
   refine XK.w ?_
   rw[fx]
   generalize l.getD i default=z at*
   generalize hJ:jnE (l.take i)=J at*
   have hlen:(L++(J++46::itoa z)).length=(L++J).length+1+(itoa z).length:=by simp;omega
   refine XK.c ?_ ?_<;>intro h1<;>try simp at h1
   ·refine XK.w ?_
    refine XK.weak (Weak.stamp (k:=700) (t:=0) hN rfl rfl) ?_
    refine XK.r ?_
    refine XL.callMA [700] hE rfl rfl rfl rfl trivial (hcc ((L++J).length+1) (by(try simp only[List.length_append]);omega) _) rfl rfl rfl rfl rfl ?_
    refine XL.e ?_
    refine XK.inv ⟨i+1,hlt,?_,by omega⟩
    rw[e2]
    refine Weak.trans (Weak.stamp (k:=700) (t:=0) hN rfl rfl) (Weak.of hN rfl rfl rfl frV ?_)
    unfold bO
    rw[hlen]
    have hb:=by_dot (L++J) z (rowOf [.c (.int .u8 46)] 1) rfl
    rw[List.append_assoc] at hb
    (repeat' (first|exact rfl|exact AvIs.refl _|exact trivial|exact fun _ _=>rfl|exact fun _ _=>⟨rfl,AvIs.refl _⟩|exact cI (by omega)|exact(hb)|refine⟨?_,?_⟩))
   ·omega
 have hie:i=l.length:=by omega
 subst hie
 rw[List.take_length]
 refine XK.weak (Weak.give (k:=0) (q:=700) 2 hN rfl rfl rfl rfl (by decide)) ?_
 refine XK.w ?_
 refine XK.t [0] ?_ ?_
 ·exact frI
 ·exact frI
theorem wrN_ok (l:List Int) (hl:∀x∈l,inK .i64 x) (hll:l.length≤100):
  DoesM Tryz.prog 111 [.c (.slice none 0 0),intsV l] [] (.vec 0 0) [bO 0 (jnE l)]:=by
 refine DoesM.mk (fun _=>false) 100 TT_ok Tryz.func111 rfl (by kernel_rfl) Tryz.ntmps111 rfl rfl rfl fun E hT hE hN hR=>?_
 have hm:=mixO hE
 refine XK.w ?_
 refine XK.loop (ι:=Nat) (fun i=>ST.of [(0,.vec 700 0),(7,intsV l),(8,.c (.int .i64 (l.length:Nat))),(9,.c (.int .i64 i))] [(700,bO 0 (jnE (l.take i)))] 1000 24 (fun _=>false))
  (fun i=>i≤l.length) (fun i=>l.length-i) 0 (Nat.zero_le _) (by rw[List.take_zero,show jnE []=[] from rfl];exact Weak.trans (Weak.ghost (j:=0) (k:=700) (e:=5) (sz:=1) (f:=fun _=>[]) rfl rfl) (Weak.of hN rfl rfl rfl frV (by(repeat' (first|exact rfl|exact AvIs.refl _|exact trivial|exact fun _ _=>rfl|exact fun _ _=>⟨rfl,AvIs.refl _⟩|exact cI (by omega)|exact(fun j hj=>absurd hj (Nat.not_lt_zero _))|refine⟨?_,?_⟩))))) fun i hi=>?_
 have hjl:=jnE_len (l:=l.take i) fun x hx=>hl x (List.mem_of_mem_take hx)
 rw[List.length_take] at hjl
 refine XK.c ?_ ?_<;>intro hlt<;>try simp at hlt
 ·have hlt:i<l.length:=by omega
  have fx:l.getD (i:Int).toNat default=l.getD i default:=rfl
  have hz:inK .i64 (l.getD i default):=by
   rw[List.getD_eq_getElem?_getD,List.getElem?_eq_getElem hlt]
   exact hl _ (List.getElem_mem hlt)
  have hz2:=hz
  simp only[inK] at hz2
  by_cases h0:i=0
  ·subst h0
   have e1:=jnE_one hlt
   have hc:=appendInt_ok (l.getD 0 default) hz2.1 hz2.2 (jnE (l.take 0)).length (by rw[show jnE (l.take 0)=[] from rfl];(try simp only[List.length_append,List.length_nil]);omega) (fun i=>byC ((jnE (l.take 0)).getD i 0))
   have hb:=by_app (jnE (l.take 0)) (itoa (l.getD 0 default)) (itoaF (l.getD 0 default)) (fun _ _=>rfl)
   have e2:jnE (l.take (0+1))=(jnE (l.take 0))++itoa (l.getD 0 default):=by rw[Nat.zero_add,e1,show jnE (l.take 0)=[] from rfl,List.nil_append]
   refine XK.w ?_
   rw[fx]
   generalize l.getD 0 default=z at*
   refine XK.c ?_ ?_<;>intro h1<;>try simp at h1
   refine XK.w ?_
   refine XK.r ?_
   refine XL.callMA [700] hE rfl rfl rfl rfl trivial (hc) rfl rfl rfl rfl rfl ?_
   refine XL.e ?_
   refine XK.inv ⟨0+1,hlt,?_,by omega⟩
   rw[e2]
   have hln:((jnE (l.take 0))++itoa z).length=(jnE (l.take 0)).length+(itoa z).length:=List.length_append
   rw[hln] at hb
   refine Weak.trans (Weak.stamp (k:=700) (t:=0) hN rfl rfl) (Weak.of hN rfl rfl rfl frV ?_)
   unfold bO
   rw[hln]
   (repeat' (first|exact rfl|exact AvIs.refl _|exact trivial|exact fun _ _=>rfl|exact fun _ _=>⟨rfl,AvIs.refl _⟩|exact cI (by omega)|exact(hb)|refine⟨?_,?_⟩))
  ·have e2:=jnE_succ (show 0<i by omega) hlt
   have hcc:∀n,n≤999999→∀f,_:=fun n hn f=>appendInt_ok (l.getD i default) hz2.1 hz2.2 n hn f
   refine XK.w ?_
   rw[fx]
   generalize l.getD i default=z at*
   generalize hJ:jnE (l.take i)=J at*
   have hlen:((J++46::itoa z)).length=(J).length+1+(itoa z).length:=by simp;omega
   refine XK.c ?_ ?_<;>intro h1<;>try simp at h1
   ·refine XK.w ?_
    refine XK.weak (Weak.stamp (k:=700) (t:=0) hN rfl rfl) ?_
    refine XK.r ?_
    refine XL.callMA [700] hE rfl rfl rfl rfl trivial (hcc ((J).length+1) (by(try simp only[List.length_append]);omega) _) rfl rfl rfl rfl rfl ?_
    refine XL.e ?_
    refine XK.inv ⟨i+1,hlt,?_,by omega⟩
    rw[e2]
    refine Weak.trans (Weak.stamp (k:=700) (t:=0) hN rfl rfl) (Weak.of hN rfl rfl rfl frV ?_)
    unfold bO
    rw[hlen]
    have hb:=by_dot (J) z (rowOf [.c (.int .u8 46)] 1) rfl
    (repeat' (first|exact rfl|exact AvIs.refl _|exact trivial|exact fun _ _=>rfl|exact fun _ _=>⟨rfl,AvIs.refl _⟩|exact cI (by omega)|exact(hb)|refine⟨?_,?_⟩))
   ·omega
 have hie:i=l.length:=by omega
 subst hie
 rw[List.take_length]
 refine XK.w ?_
 refine XK.t [700] ?_ ?_
 ·exact frI
 ·exact frI
end
end Go.Proofs.YtgpkkllbejgmlaaGreatDoor
