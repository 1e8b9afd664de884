import Derived.Test.YtgpkkllbejgmlaaGreatDoorZz14
import Derived.Test.YtgpkkllbejgmlaaGreatDoorZz31
import Derived.Test.YtgpkkllbejgmlaaGreatDoorZz24
import Derived.Test.YtgpkkllbejgmlaaGreatDoorZz21
import Derived.Test.YtgpkkllbejgmlaaGreatDoorZz23
set_option linter.unusedSimpArgs false
set_option linter.unusedVariables false
set_option maxRecDepth 10000
namespace Go.Proofs.YtgpkkllbejgmlaaGreatDoor
section
open Go.Eng Go.RowKit Go.Lib
def zDc:Dc:=(0,(zS,false),(zS,false))
noncomputable def loS (k:K) (p:Int) (l:List Int) (P:List (List Nat)) (i:Nat) (s:Mm×Lg):Lo×Bool:=
 if(isR k p ((runE k l i).1,true) P s.1 s.2).1.2≠0∨(isR k p ((runE k l i).1,true) P s.1 s.2).1.1=false then(((isR k p ((runE k l i).1,true) P s.1 s.2).2,(zDc,false,(isR k p ((runE k l i).1,true) P s.1 s.2).1.2)),true)
 else if(isR k p (toPos k p l i) P (isR k p ((runE k l i).1,true) P s.1 s.2).2.1 (isR k p ((runE k l i).1,true) P s.1 s.2).2.2).1.2≠0 then(((isR k p (toPos k p l i) P (isR k p ((runE k l i).1,true) P s.1 s.2).2.1 (isR k p ((runE k l i).1,true) P s.1 s.2).2.2).2,(zDc,false,(isR k p (toPos k p l i) P (isR k p ((runE k l i).1,true) P s.1 s.2).2.1 (isR k p ((runE k l i).1,true) P s.1 s.2).2.2).1.2)),true)
 else if(isR k p (toPos k p l i) P (isR k p ((runE k l i).1,true) P s.1 s.2).2.1 (isR k p ((runE k l i).1,true) P s.1 s.2).2.2).1.1=false then(((isR k p (toPos k p l i) P (isR k p ((runE k l i).1,true) P s.1 s.2).2.1 (isR k p ((runE k l i).1,true) P s.1 s.2).2.2).2,(dcD k p l i,true,0)),true)
 else(((isR k p (toPos k p l i) P (isR k p ((runE k l i).1,true) P s.1 s.2).2.1 (isR k p ((runE k l i).1,true) P s.1 s.2).2.2).2,(zDc,false,0)),false)
noncomputable def loT (k:K) (p:Int) (l:List Int) (P:List (List Nat)) (s:Mm×Lg):Nat→Lo×Bool
 |0=>((s,(zDc,false,0)),false)
 |i+1=>if(loT k p l P s i).2=true then loT k p l P s i else loS k p l P i (loT k p l P s i).1.1
theorem loT_stop {k:K} {p:Int} {l:List Int} {P:List (List Nat)} {s:Mm×Lg} (i:Nat) (h:(loT k p l P s i).2=true):∀m,i≤m→loT k p l P s m=loT k p l P s i:=by
 intro m hm
 induction m with
 |zero=>rw[show i=0 by omega]
 |succ m ih=>
  by_cases e:i=m+1
  ·rw[e]
  ·have:=ih (by omega)
   rw[loT,this,if_pos h]
theorem loT_go {k:K} {p:Int} {l:List Int} {P:List (List Nat)} {s:Mm×Lg}:∀i,(loT k p l P s i).2=false→(loT k p l P s i).1.2=(zDc,false,0)
 |0,_=>rfl
 |i+1,h=>by
  rw[loT] at h ⊢
  split at h
  ·rename_i q;rw[q] at h;cases h
  ·rename_i q
   rw[if_neg q]
   unfold loS at h ⊢
   split at h
   ·cases h
   ·split at h
    ·cases h
    ·split at h
     ·cases h
     ·rename_i a b c
      rw[if_neg a,if_neg b,if_neg c]
theorem isR_err {k:K} {p:Int} {x:Ps} {P:List (List Nat)} {m:Mm} {g:Lg}:(isR k p x P m g).1.2=0∨(isR k p x P m g).1.2=3:=by
 unfold isR
 split
 ·exact .inl rfl
 ·split
  ·exact slT_err P.length
  ·split
   ·exact slT_err P.length
   ·exact .inl rfl
theorem loT_err {k:K} {p:Int} {l:List Int} {P:List (List Nat)} {s:Mm×Lg}:∀i,(loT k p l P s i).1.2.2.2=0∨(loT k p l P s i).1.2.2.2=3
 |0=>.inl rfl
 |i+1=>by
  rw[loT]
  split
  ·exact loT_err i
  ·unfold loS
   split
   ·exact isR_err
   ·split
    ·exact isR_err
    ·split<;>exact .inl rfl
theorem loT_gen {k:K} {p:Int} {l:List Int} {P:List (List Nat)} {s:Mm×Lg} {Good:Ps→Prop} {Inv:Ps→Mm→Lg→Prop}
  (hR:∀i x m g,i<l.length→(x=((runE k l i).1,true)∨x=toPos k p l i)→Inv x m g→((isR k p x P m g).1.2=0→((isR k p x P m g).1.1=true↔Good x))∧∀y,Inv y (isR k p x P m g).2.1 (isR k p x P m g).2.2)
  (hI:Inv ((runE k l 0).1,true) s.1 s.2) (h0:Good ((runE k l 0).1,true)) (hn:∀i,i<l.length→Good (toPos k p l i)→Good ((runE k l (i+1)).1,true)):∀i,i≤l.length→
  ((loT k p l P s i).2=false→Good ((runE k l i).1,true)∧Inv ((runE k l i).1,true) (loT k p l P s i).1.1.1 (loT k p l P s i).1.1.2)∧((loT k p l P s i).2=true→(loT k p l P s i).1.2.2.2=0→(loT k p l P s i).1.2.2.1=true)
 |0,_=>⟨fun _=>⟨h0,hI⟩,fun h=>by cases h⟩
 |i+1,hi=>by
  obtain⟨a2,a3⟩:=loT_gen hR hI h0 hn i (by omega)
  rw[loT]
  by_cases q:(loT k p l P s i).2=true
  ·rw[if_pos q]
   exact⟨fun h=>absurd q (by rw[h];simp),a3⟩
  ·rw[if_neg q]
   obtain⟨hg,hinv⟩:=a2 (by simpa using q)
   obtain⟨b2,b3⟩:=hR i _ _ _ hi (.inl rfl) hinv
   obtain⟨c2,c3⟩:=hR i _ _ _ hi (.inr rfl) (b3 (toPos k p l i))
   unfold loS
   generalize isR k p ((runE k l i).1,true) P (loT k p l P s i).1.1.1 (loT k p l P s i).1.1.2=A at*
   split
   ·rename_i h1
    refine⟨fun h=>by(cases h),fun _ h2=>?_⟩
    have h2:A.1.2=0:=h2
    rcases h1 with h1|h1
    ·exact absurd h2 h1
    ·rw[(b2 h2).2 hg] at h1;cases h1
   ·generalize isR k p (toPos k p l i) P A.2.1 A.2.2=B at*
    split
    ·rename_i h2
     exact⟨fun h=>by(cases h),fun _ h3=>absurd h3 h2⟩
    ·rename_i h2
     have h2:B.1.2=0:=by simpa using h2
     split
     ·exact⟨fun h=>by(cases h),fun _ _=>rfl⟩
     ·rename_i h3
      have h3:B.1.1=true:=by simpa using h3
      exact⟨fun _=>⟨hn i hi ((c2 h2).1 h3),c3 _⟩,fun h=>by cases h⟩
theorem ArenaOk.mem {k:K} {p:Int} {ps:List Ps} {mv:Nat→List Nat} (h:ArenaOk k p ps mv) {z:Ps} (hz:z∈ps) {m:Int×Ps} (hm:m∈mvS k p z):m.2∈ps:=by
 obtain⟨j,hj,e⟩:=List.getElem_of_mem hz
 have hz:psAt ps j=z:=by unfold psAt;rw[List.getD_eq_getElem?_getD,List.getElem?_eq_getElem hj];exact e
 have he:=h.edge j hj
 rw[hz] at he
 have:m.2∈(mv j).map (psAt ps):=by rw[he];exact List.mem_map.2 ⟨m,hm,rfl⟩
 obtain⟨t,ht,e2⟩:=List.mem_map.1 this
 rw[←e2]
 exact psAt_mem (h.lt j hj t ht)
theorem act_in {k:K} {p:Int} {ps:List Ps} {mv:Nat→List Nat} (h:ArenaOk k p ps mv) {s:St} {o:Bool} (hs:(s,o)∈ps) (hs1:(s,true)∈ps) {t:Int} (ht:(stepS k s t).2=0) (hn:if o=true then 0≤t∧doerW k s.wk.hold t.toNat=p else t=-1∨doerW k s.wk.hold t.toNat≠p):((stepS k s t).1,true)∈ps:=by
 obtain⟨h1,h2,h3,h4,-⟩:=stepS_good ht
 have hd:=(validS_len h1).2.2.2.2.1.2
 by_cases hsm:sameS (stepS k s t).1 s=true
 ·rw[sameS_eq hsm];exact hs1
 ·refine h.mem hs (m:=(t,((stepS k s t).1,true))) (List.mem_append.2 (.inr ?_))
  show _∈(if k.days≤s.day then[] else _)
  rw[if_neg (by omega)]
  by_cases hm1:t=-1
  ·subst hm1
   cases o with
   |true=>rw[if_pos rfl] at hn;omega
   |false=>exact List.mem_append.2 (.inl (by rw[if_neg (by simp)];exact List.mem_cons_self))
  ·refine List.mem_append.2 (.inr (List.mem_filterMap.2 ⟨t.toNat,List.mem_range.2 (by omega),?_⟩))
   have e:((t.toNat:Nat):Int)=t:=by omega
   simp only[e]
   cases o with
   |true=>rw[if_pos rfl] at hn;rw[if_pos (by simp[hn.2,hsm])]
   |false=>
    rw[if_neg (by simp)] at hn
    rw[if_pos (by simp[hn.resolve_left hm1,hsm])]
theorem trace_in {k:K} {p:Int} {l:List Int} {ps:List Ps} {mv:Nat→List Nat} (hA:ArenaOk k p ps mv) (hok:∀j,j≤l.length→(runE k l j).2=0) {i:Nat} (hi:i<l.length) (h:((runE k l i).1,true)∈ps):toPos k p l i∈ps∧((runE k l (i+1)).1,true)∈ps:=by
 have e:=runE_step (hok i (by omega))
 have hs:=hok (i+1) hi
 rw[e] at hs
 have hf:=hA.mem h (pass_mv k p (runE k l i).1)
 unfold toPos
 rw[e]
 by_cases hc:0≤l.getD i default∧doerS k (runE k l i).1 (l.getD i default)=p
 ·rw[if_pos hc]
  rw[doerS_good hs hc.1] at hc
  have:=act_in hA h h hs (by rw[if_pos rfl];exact hc)
  exact⟨this,this⟩
 ·rw[if_neg hc]
  refine⟨hf,act_in hA hf h hs ?_⟩
  rw[if_neg (by simp)]
  by_cases h0:0≤l.getD i default
  ·rw[doerS_good hs h0] at hc
   exact .inr fun q=>hc ⟨h0,q⟩
  ·have:=(stepS_good hs).2.1
   exact .inl (by omega)
theorem run_valid {k:K} (hk:kW k) {l:List Int} (hok:∀j,j≤l.length→(runE k l j).2=0):∀i,i≤l.length→validS k (runE k l i).1=true
 |0,_=>(startS_zero hk (hok 0 (Nat.zero_le _))).2.1
 |i+1,hi=>by
  have h:=hok (i+1) hi
  rw[runE_step (hok i (by omega))] at h ⊢
  exact validS_step hk h
theorem at_valid {k:K} (hk:kW k) {p:Int} {l:List Int} (hok:∀j,j≤l.length→(runE k l j).2=0) (i:Nat) (x:Ps) (hi:i<l.length) (hx:x=((runE k l i).1,true)∨x=toPos k p l i):validS k x.1=true:=by
 rcases hx with rfl|rfl
 ·exact run_valid hk hok i (by omega)
 ·unfold toPos
  split
  ·exact run_valid hk hok (i+1) hi
  ·exact run_valid hk hok i (by omega)
theorem lose_law {k:K} (hF:KFacts k) (hv:(kValid k).1=0) {p:Int} (hp:0≤p∧p<k.parties) {l:List Int} (hok:∀j,j≤l.length→(runE k l j).2=0) (hs:csB k p ((runE k l 0).1,true) (compsL k)=true)
  (he:(loT k p l (compsL k) (fun _=>none,fun _=>none) l.length).1.2.2.2=0) (hl:(loT k p l (compsL k) (fun _=>none,fun _=>none) l.length).1.2.2.1=false):breachS k (runE k l l.length).1 p=false:=by
 have hk:=hF.w
 have hpl:∀x:Ps,validS k x.1=true→plB k p x=true:=fun x hs=>by unfold plB;rw[decide_eq_true hp.1,decide_eq_true hp.2];exact hs
 have hvr:=run_valid hk hok
 have hpx:=at_valid (p:=p) hk hok
 have hP:=comps_parts hF
 have hS:=slOk hF hv (hpl ((runE k l 0).1,true) (hvr 0 (Nat.zero_le _)))
 have h0:=(csB_ok hS (by unfold csB at hs;simp at hs;exact hs.1)).1 hs
 have hfin:∀{Good:Ps→Prop} {Inv:Ps→Mm→Lg→Prop},(∀s o,validS k s=true→Good (s,o)→SafeG k p (s,o))→
   (∀i x m g,i<l.length→(x=((runE k l i).1,true)∨x=toPos k p l i)→Inv x m g→((isR k p x (compsL k) m g).1.2=0→((isR k p x (compsL k) m g).1.1=true↔Good x))∧∀y,Inv y (isR k p x (compsL k) m g).2.1 (isR k p x (compsL k) m g).2.2)→
   Inv ((runE k l 0).1,true) (fun _=>none) (fun _=>none)→Good ((runE k l 0).1,true)→(∀s t,Good (s,false)→(stepS k s t).2=0→(t=-1∨doerW k s.wk.hold t.toNat≠p)→Good ((stepS k s t).1,true))→breachS k (runE k l l.length).1 p=false:=fun{Good Inv} hG hR hI h0 hstep=>by
  obtain⟨a,b⟩:=loT_gen (s:=(fun _=>none,fun _=>none)) hR hI h0 (fun i hi h=>stages_next hstep hok hi h) l.length (Nat.le_refl _)
  cases q:(loT k p l (compsL k) (fun _=>none,fun _=>none) l.length).2 with
  |true=>rw[b q he] at hl;cases hl
  |false=>exact(hG _ _ (hvr _ (Nat.le_refl _)) (a q).1).breach
 cases hf:(fromR k p ((runE k l 0).1,true)).2 with
 |false=>
  obtain⟨hA,hB,hpos,hps⟩:=fromR_arena hF (hpl ((runE k l 0).1,true) (hvr 0 (Nat.zero_le _))) hf
  have hin:∀i,i≤l.length→((runE k l i).1,true)∈(fromR k p ((runE k l 0).1,true)).1.1.ps:=fun i=>by
   induction i with
   |zero=>intro _;have:=psAt_mem hpos;rwa[hps] at this
   |succ i ih=>intro hi;exact(trace_in hB hok hi (ih (by omega))).2
  refine hfin (Good:=SafeG k p) (Inv:=fun _ m g=>MemOk k (SafeG k p) m∧(g 0).getD false=false) (fun _ _ _ h=>h) (fun i x m g hi hx hI=>?_) ⟨fun y b _ h=>(by cases h),rfl⟩ (product hk hP (hvr 0 (Nat.zero_le _)) h0) fun s t h1 h2 h3=>h1.step (validS_len (stepS_good h2).1).2.2.2.2.1.2 h2 h3
  have h3:x∈(fromR k p ((runE k l 0).1,true)).1.1.ps:=by
   rcases hx with rfl|rfl
   ·exact hin i (by omega)
   ·exact(trace_in hB hok hi (hin i (by omega))).1
  have hsm:(fromR k p x).2=false:=by
   cases q:(fromR k p x).2 with
   |false=>rfl
   |true=>
    obtain⟨n,h1,h2⟩:=(fromR_ok k p x).2 q
    have:=arT_len hB h3 h1
    have:=hA.max
    omega
  obtain⟨-,b,c,d⟩:=isR_whole hF (hpl x (hpx i x hi hx)) hsm (P:=compsL k) hI.1 hI.2
  exact⟨fun _=>b,fun _=>⟨c,by rw[d];exact hI.2⟩⟩
 |true=>
  refine hfin (Good:=fun x=>∀cl∈compsL k,SafeG (partK k cl) p (restS cl x.1,x.2)) (Inv:=fun x m g=>MemOk k (fun y=>∀cl∈compsL k,SafeG (partK k cl) p (restS cl y.1,y.2)) m∧((g 0).getD false=true∨(fromR k p x).2=true∧m (plcT x)=none))
   (fun s o hs h=>product hk hP hs h) (fun i x m g hi hx hI=>?_) ⟨fun y b _ h=>(by cases h),.inr ⟨hf,rfl⟩⟩ h0 fun s t h1 h2 h3=>parts_step hk hP h1 h2 h3
  have hvx:=hpx i x hi hx
  obtain⟨-,b,c,d⟩:=isR_parts (slOk hF hv (hpl x hvx)) hvx hI.1 hI.2
  exact⟨b,fun _=>⟨c,.inl d⟩⟩
end
section
open Go.Eng Go.RowKit Go.Lib
def zD:List AV:=[.c (.int .i64 0),.c (.int .i64 0),.c (.slice none 0 0),.c (.slice none 0 0),.c (.slice none 0 0),.c (.bool false),.c (.int .i64 0),.c (.slice none 0 0),.c (.slice none 0 0),.c (.slice none 0 0),.c (.bool false)]
theorem zD_is (i:Nat) (x y:AV) (hx:zD[i]?=some x) (hy:(dC zDc)[i]?=some y):AvS x y:=by
 rcases i with _|_|_|_|_|_|_|_|_|_|_|i<;>first|(cases hx;cases hy;first|exact AvS.refl _|exact AvS.nil)|(cases hx)
set_option maxHeartbeats 1000000 in
theorem loses_ok (k:K) (hF:KFacts k) (hv:(kValid k).1=0) (p:Int) (hp:0≤p∧p<k.parties) (l:List Int) (hl:l.length≤4000) (hok:∀j,j≤l.length→(runE k l j).2=0) (m:Mm) (g:Lg):
  DoesM Tryz.prog 31 [.ptr 0 0,.agg (stgC k l)] (jgO p m g) (.tup [.agg (dC (loT k p l (compsL k) (m,g) l.length).1.2.1),.c (.bool (loT k p l (compsL k) (m,g) l.length).1.2.2.1),.c (.int .i64 (loT k p l (compsL k) (m,g) l.length).1.2.2.2)]) (jgO p (loT k p l (compsL k) (m,g) l.length).1.1.1 (loT k p l (compsL k) (m,g) l.length).1.1.2):=by
 have hd:=decs_ok k l p
 have hd1:=decs1_ok k hF p l hl hok
 have hst:=loT_stop (k:=k) (p:=p) (l:=l) (P:=compsL k) (s:=(m,g))
 have hgo:=loT_go (k:=k) (p:=p) (l:=l) (P:=compsL k) (s:=(m,g))
 have hso:=fun i (hi:i<l.length) x (hx:x=((runE k l i).1,true)∨x=toPos k p l i) m' g'=>isSafe_ok k hF hv p l (by omega) i (by omega) x (by unfold plB;rw[decide_eq_true hp.1,decide_eq_true hp.2];exact at_valid hF.w hok i x hi hx) m' g'
 unfold stgC at hd hso ⊢
 refine DoesM.mk (fun _=>false) 100 TT_ok Tryz.func31 rfl (by kernel_rfl) Tryz.ntmps31 rfl rfl rfl fun E hT hE hN hR=>?_
 have hm:=mixO hE
 refine XK.w ?_
 refine XK.weak (Weak.frozenC (k:=103) hN rfl rfl rfl) ?_
 refine XK.s ?_
 refine XD.callKA hE rfl rfl rfl rfl trivial rfl rfl (hd) ?_
 refine XD.e ?_
 refine XK.weak (Weak.trans (Weak.cellsS (k:=104) (cs':=dC zDc) rfl rfl zD_is) (Weak.of (L:=[(2,.ptr 102 0),(3,.rptr (stgC k l)),(4,.ptr 104 0),(5,.ptr 105 0),(6,.ptr 106 0),(15,.fn (.func 97) [] [.rptr (stgC k l),.rptr [.c (.int .i64 p)]])])
  (O:=[(104,.cells 86 (dC zDc)),(105,.cells 4 [.c (.bool false)]),(106,.cells 32 [.c (.int .i64 0)]),(102,.cells 88 [.ptr 0 0]),(0,.cells 122 [.c (.int .i64 p),.mp 1,.mp 2,.mp 3,.mp 4,.c (.bool false),.c (.int .i64 0),.c (.int .i64 0),.c (.int .i64 0)]),(1,jsO m),(2,lgO g),(3,shMO),(4,dmMO)]) (nx:=1000) (nt:=53) (md:=fun _=>false) hN rfl rfl rfl frI frI)) ?_
 refine XK.rangeFunc 900 [104,105,106,102,0,1,2,3,4] (frL 53 [(2,.ptr 102 0),(3,.rptr (stgC k l)),(4,.ptr 104 0),(5,.ptr 105 0),(6,.ptr 106 0)])
  (ST.of [(2,.ptr 102 0),(3,.rptr (stgC k l)),(4,.ptr 104 0),(5,.ptr 105 0),(6,.ptr 106 0)]
   [(104,.cells 86 (dC (loT k p l (compsL k) (m,g) l.length).1.2.1)),(105,.cells 4 [.c (.bool (loT k p l (compsL k) (m,g) l.length).1.2.2.1)]),(106,.cells 32 [.c (.int .i64 (loT k p l (compsL k) (m,g) l.length).1.2.2.2)]),(102,.cells 88 [.ptr 0 0]),(0,.cells 122 [.c (.int .i64 p),.mp 1,.mp 2,.mp 3,.mp 4,.c (.bool false),.c (.int .i64 0),.c (.int .i64 0),.c (.int .i64 0)]),(1,jsO (loT k p l (compsL k) (m,g) l.length).1.1.1),(2,lgO (loT k p l (compsL k) (m,g) l.length).1.1.2),(3,shMO),(4,dmMO)] 3000 53 (fun _=>false))
  (res:=.tup []) (args':=[.rptr (stgC k l),.rptr [.c (.int .i64 p)]]) (s:=if(loT k p l (compsL k) (m,g) l.length).2=false then .ready else .done) (pend:=if(loT k p l (compsL k) (m,g) l.length).2=false then none else some .ret) (O':=loO p (loT k p l (compsL k) (m,g) l.length).1) (O:=loO p (loT k p l (compsL k) (m,g) 0).1) hR rfl trivial rfl (frL_length _ _) (frL_is frI) (fun L D fn=>?_) rfl frI rfl rfl frI rfl rfl (by split<;>simp) (fun L D fn cs=>(Weak.of hN rfl rfl rfl frI frI)) ?_
 ·rw[hE]
  refine hd1 L L (recOf fn _ _ _ D) .ret _ (loT k p l (compsL k) (m,g)) rfl hst (fun i hi h0=>?_) ?_
  rotate_left
  ·split<;>rfl
  have hN1:loT k p l (compsL k) (m,g) (i+1)=loS k p l (compsL k) i (loT k p l (compsL k) (m,g) i).1.1:=by rw[loT,if_neg (by rw[h0];simp)]
  have h1:=hgo i h0
  rw[hN1]
  clear hN1 hd hd1 hst hgo
  generalize loT k p l (compsL k) (m,g) i=s at*
  obtain⟨⟨⟨m0,g0⟩,r⟩,e⟩:=s
  dsimp only at h0 h1
  subst h0 h1
  have hs1:=hso i hi _ (.inl rfl) m0 g0
  have hs2:=fun m' g'=>hso i hi _ (.inr rfl) m' g'
  clear hso
  unfold loS dcD
  dsimp only
  generalize (runE k l i).1=si at*
  generalize isR k p (si,true) (compsL k) m0 g0=A at*
  have hs2:=hs2 A.2.1 A.2.2
  generalize toPos k p l i=y at*
  generalize isR k p y (compsL k) A.2.1 A.2.2=B at*
  obtain⟨⟨b1,e1⟩,m1,g1⟩:=A
  obtain⟨⟨b2,e2⟩,m2,g2⟩:=B
  dsimp only at*
  refine DoesR.mkT TT_ok (fun _=>false) 100 (ST.of [(2,.ptr 4 0),(3,.rptr (stgC k l)),(4,.ptr 1 0),(5,.ptr 2 0),(6,.ptr 3 0),(7,.ptr 107 0)]
   ((0,.lrec (recOf fn _ _ _ D .ready none) L (csL k l))::loN p ((m0,g0),(zDc,false,0))++[(107,.cells 86 (dC ((i:Int),(si,true),y)))]) 1000 53 (fun _=>false)) rfl ?_ (Nat.le_refl 9) (fun E hT hE hN hR=>?_) rfl (fun E hT hE hN hR=>?_)
  ·intro x hx
   have hx:x=16:=by simpa using hx
   have:(csL k l).length=53:=frL_length _ _
   subst hx
   show 16<(csL k l).length;rw[this];omega
  ·have hm:=mixO hE
   refine XK.w ?_
   exact XK.nil ⟨rfl,(Weak.of hN rfl rfl rfl frI frI)⟩
  ·have hm:=mixO hE
   refine XK.r ?_
   refine XL.callMA [5,6,7,8,9] hE rfl rfl rfl rfl trivial (hs1) rfl rfl rfl rfl rfl ?_
   refine XL.e ?_
   refine XK.c ?_ ?_<;>intro h5
   ·have h5:e1≠0∨b1=false:=by simpa using h5
    rw[if_pos h5]
    refine XK.w ?_
    refine XK.weak (Weak.cellsS (k:=1) (cs':=dC zDc) rfl rfl zD_is) ?_
    (first|refine XK.outY [0,1,2,3,4,5,6,7,8,9] hN rfl rfl rfl ?_ ?_ ?_|refine XK.outYN [0,1,2,3,4,5,6,7,8,9] hN rfl rfl rfl ?_ ?_ ?_)
    ·exact frI
    ·rfl
    ·rfl
   have h5:¬(e1≠0∨b1=false):=by simpa using h5
   rw[if_neg h5]
   refine XK.r ?_
   refine XL.callMA [5,6,7,8,9] hE rfl rfl rfl rfl trivial (hs2) rfl rfl rfl rfl rfl ?_
   refine XL.e ?_
   refine XK.c ?_ ?_<;>intro h6
   ·have h6:e2≠0:=by simpa using h6
    rw[if_pos h6]
    refine XK.w ?_
    refine XK.weak (Weak.cellsS (k:=1) (cs':=dC zDc) rfl rfl zD_is) ?_
    (first|refine XK.outY [0,1,2,3,4,5,6,7,8,9] hN rfl rfl rfl ?_ ?_ ?_|refine XK.outYN [0,1,2,3,4,5,6,7,8,9] hN rfl rfl rfl ?_ ?_ ?_)
    ·exact frI
    ·rfl
    ·rfl
   have h6:¬e2≠0:=by simpa using h6
   rw[if_neg h6]
   refine XK.c ?_ ?_<;>intro h7
   ·have h7:b2=false:=by simpa using h7
    rw[if_pos h7]
    refine XK.w ?_
    (first|refine XK.outY [0,1,2,3,4,5,6,7,8,9] hN rfl rfl rfl ?_ ?_ ?_|refine XK.outYN [0,1,2,3,4,5,6,7,8,9] hN rfl rfl rfl ?_ ?_ ?_)
    ·exact frI
    ·rfl
    ·rfl
   have h7:¬b2=false:=by simpa using h7
   rw[if_neg h7]
   refine XK.w ?_
   (first|refine XK.outY [0,1,2,3,4,5,6,7,8,9] hN rfl rfl rfl ?_ ?_ ?_|refine XK.outYN [0,1,2,3,4,5,6,7,8,9] hN rfl rfl rfl ?_ ?_ ?_)
   ·exact frI
   ·rfl
   ·rfl
 ·clear hd1 hst hd hso
  generalize hR1:loT k p l (compsL k) (m,g) l.length=R at*
  obtain⟨⟨⟨m9,g9⟩,dd,b9,e9⟩,st9⟩:=R
  dsimp only
  cases st9 with
  |true=>
   rw[if_neg (by simp)]
   show XK E (.code .ret::_) _ _
   refine XK.w ?_
   refine XK.weak (Weak.trans (Weak.frozenC (k:=104) hN rfl rfl rfl) (Weak.trans (Weak.frozenC (k:=105) hN rfl rfl rfl) (Weak.frozenC (k:=106) hN rfl rfl rfl))) ?_
   refine XK.t [0,1,2,3,4] ?_ ?_
   ·exact frI
   ·exact frI
  |false=>
   have h1:=hgo l.length (by rw[hR1])
   rw[hR1] at h1
   dsimp only at h1
   injection h1 with h1 h2
   injection h2 with h2 h3
   subst h1 h2 h3
   rw[if_pos rfl]
   show XK E _ _ _
   refine XK.w ?_
   refine XK.weak (Weak.trans (Weak.cellsS (k:=104) (cs':=dC zDc) rfl rfl zD_is) (Weak.trans (Weak.frozenC (k:=104) hN rfl rfl rfl) (Weak.trans (Weak.frozenC (k:=105) hN rfl rfl rfl) (Weak.frozenC (k:=106) hN rfl rfl rfl)))) ?_
   refine XK.t [0,1,2,3,4] ?_ ?_
   ·exact frI
   ·exact frI
end
section
open Go.Eng Go.RowKit Go.Lib Go.Sort
theorem bitsLen_ok (n:Nat) (h:n≤1000000):Does Tryz.prog 153 [.c (.int .u64 n)] (.c (.int .i64 (Lib.bitLen n))):=
 Does.of_gl (args:=[.int .u64 n]) ⟨_,Tryz.func153,rfl,by kernel_rfl⟩ fun w G hgl=>(Tryz.bits_Len n w (by omega) (by omega)).mono fun e w' ⟨h,hw⟩=>⟨h,hw▸Keep.refl _ _⟩
theorem insP_ok (n:Nat) (hn:n≤1) (f:Nat→List AV) (g:Nat):DoesM Tryz.prog 183 [.vec 0 0,.c (.int .i64 0),.c (.int .i64 n),.fn (.func g) [] []] [.vec 236 23 0 n f] (.tup []) [.vec 236 23 0 n f]:=by
 refine DoesM.mk (fun _=>false) 100 TT_ok Tryz.func183 rfl (by kernel_rfl) Tryz.ntmps183 rfl rfl rfl fun E hT hE hN hR=>?_
 have hm:=mixO hE
 refine XK.w ?_
 refine XK.loop (ι:=Unit) (fun _=>ST.of [(2,.c (.int .i64 n)),(8,.c (.int .i64 1))] [(0,.vec 236 23 0 n f)] 1000 53 (fun _=>false)) (fun _=>True) (fun _=>0) () trivial (Weak.of hN rfl rfl rfl frI frI) fun _ _=>?_
 refine XK.c ?_ ?_<;>intro h1<;>try simp at h1
 ·omega
 ·refine XK.w ?_
  refine XK.t [0] ?_ ?_
  ·exact frI
  ·exact frI
theorem pdqP_ok (n:Nat) (hn:n≤1) (f:Nat→List AV) (g:Nat) (z:Int):DoesM Tryz.prog 161 [.vec 0 0,.c (.int .i64 0),.c (.int .i64 n),.c (.int .i64 z),.fn (.func g) [] []] [.vec 236 23 0 n f] (.tup []) [.vec 236 23 0 n f]:=by
 have hc:=insP_ok n hn f g
 refine DoesM.mk (fun _=>false) 100 TT_ok Tryz.func161 rfl (by kernel_rfl) Tryz.ntmps161 rfl rfl rfl fun E hT hE hN hR=>?_
 have hm:=mixO hE
 refine XK.w ?_
 refine XK.loop (ι:=Unit) (fun _=>ST.of [(0,.vec 0 0),(1,.c (.int .i64 0)),(2,.c (.int .i64 n)),(3,.c (.int .i64 z)),(4,.fn (.func g) [] [])] [(0,.vec 236 23 0 n f)] 1000 148 (fun _=>false)) (fun _=>True) (fun _=>0) () trivial (Weak.of hN rfl rfl rfl frI frI) fun _ _=>?_
 refine XK.c ?_ ?_<;>intro h1<;>try simp at h1
 ·refine XK.r ?_
  refine XL.callMA [0] hE rfl rfl rfl rfl trivial (hc) rfl rfl rfl rfl rfl ?_
  refine XL.e ?_
  refine XK.t [0] ?_ ?_
  ·exact frI
  ·exact frI
 ·omega
theorem sortP1_ok (n:Nat) (hn:n≤1) (f f':Nat→List AV) (hf:∀i,i<n→f' i=f i) (g:Nat):DoesM Tryz.prog 139 [.vec 0 0,.fn (.func g) [] []] [.vec 236 23 0 n f] (.tup []) [.vec 236 23 0 n f']:=by
 have hc:=pdqP_ok n hn f g (Lib.bitLen n)
 refine DoesM.mk (fun _=>false) 100 TT_ok Tryz.func139 rfl (by kernel_rfl) Tryz.ntmps139 rfl rfl rfl fun E hT hE hN hR=>?_
 have hm:=mixO hE
 refine XK.w ?_
 refine XK.r ?_
 refine XL.callLA hE rfl rfl rfl rfl trivial rfl (bitsLen_ok n (by omega)) rfl ?_
 refine XL.g ?_
 refine XL.callMA [0] hE rfl rfl rfl rfl trivial (hc) rfl rfl rfl rfl rfl ?_
 refine XL.e ?_
 refine XK.t [0] ?_ ?_
 ·(repeat' (first|exact rfl|exact AvIs.refl _|exact trivial|exact fun _ _=>rfl|exact fun _ _=>⟨rfl,AvIs.refl _⟩|exact cI (by omega)|exact(hf)|refine⟨?_,?_⟩))
 ·exact frI
end
section
open Go.Eng Go.RowKit Go.Lib Go.Sort
theorem order0_ok:Does Tryz.prog 89 [.c (.slice none 0 0)] (intsV []):=by
 have hs:=sortP1_ok 0 (by omega) (fun _=>[]) (fun _=>[]) (fun i hi=>rfl) 140
 refine Does.mk (fun d=>Nat.beq d 11) TT_ok Tryz.func89 rfl (by kernel_rfl) Tryz.ntmps89 rfl rfl fun E hT hE hN hR=>?_
 have hm:=mixO hE
 refine XK.w ?_
 refine XK.loop (ι:=Unit) (fun _=>ST.of [(0,.c (.slice none 0 0)),(3,.vec 56 0),(13,.c (.int .i64 0)),(14,.c (.int .i64 0))] [(56,.vec 236 23 0 0 (fun _=>[]))] 1000 45 (fun d=>Nat.beq d 11)) (fun _=>True) (fun _=>0) () trivial (Weak.of hN rfl rfl rfl frI (by(repeat' (first|exact rfl|exact AvIs.refl _|exact trivial|exact fun _ _=>rfl|exact fun _ _=>⟨rfl,AvIs.refl _⟩|exact cI (by omega)|exact(fun j hj=>absurd hj (Nat.not_lt_zero _))|refine⟨?_,?_⟩)))) fun _ _=>?_
 refine XK.c ?_ ?_<;>intro h1<;>try simp at h1
 refine XK.w ?_
 refine XK.r ?_
 refine XL.callMA [56] hE rfl rfl rfl rfl trivial (hs) rfl rfl rfl rfl rfl ?_
 refine XL.e ?_
 refine XK.loop (ι:=Unit) (fun _=>ST.of [(6,.vec 1120 0),(32,.c (.int .i64 0)),(33,.c (.int .i64 0))] [(1120,.vec 3 1 0 0 (fun i=>iC (([]:List Int).getD i default)))] 3000 45 (fun _=>false)) (fun _=>True) (fun _=>0) () trivial (Weak.of hN rfl rfl rfl frI (by(repeat' (first|exact rfl|exact AvIs.refl _|exact trivial|exact fun _ _=>rfl|exact fun _ _=>⟨rfl,AvIs.refl _⟩|exact cI (by omega)|exact(fun j hj=>absurd hj (Nat.not_lt_zero _))|refine⟨?_,?_⟩)))) fun _ _=>?_
 refine XK.c ?_ ?_<;>intro h1<;>try simp at h1
 refine XK.w ?_
 refine XK.weak (Weak.frozen (k:=1120) hN rfl rfl) ?_
 refine XK.q ?_
 rfl
def clsO (s:Nat) (cs:List Cl):Ob:=.vec 61 16 s cs.length (fun i=>clC (cs.getD i default))
theorem setRow_sameG {cs:List Cl} {i off:Nat} {c:List AV} (hc:setL (clC (cs.getD i default)) off c=clC (cs.getD i default)):∀j,clC (cs.getD j default)=setRowF (fun i=>clC (cs.getD i default)) i off c j:=by
 intro j
 unfold setRowF
 by_cases h:j=i
 ·subst h;rw[show Nat.beq j j=true by simp];exact hc.symm
 ·rw[beq_false h];rfl
theorem copiedC_ok (k:K) (h1:(kValid k).1=0) (hk:kW k):Does Tryz.prog 91 [kV k] (kV k):=by
 have hF:=(show kOk k from⟨hk,h1⟩).facts
 have hnc:=hF.nc
 have hnh:=hF.nh
 have hna:=hF.na
 have hnu:=unitsC_len h1
 have hno:=offW_len hF
 refine Does.mk (fun _=>false) TT_ok Tryz.func91 rfl (by kernel_rfl) Tryz.ntmps91 rfl rfl fun E hT hE hN hR=>?_
 have hm:=mixO hE
 refine XK.r ?_
 refine XL.callKA hE rfl rfl rfl rfl trivial rfl rfl (cln_ints k.holders (by omega)) ?_
 refine XL.e ?_
 refine XK.r ?_
 refine XL.callKA hE rfl rfl rfl rfl trivial rfl rfl (cln_units k.units (by omega)) ?_
 refine XL.e ?_
 refine XK.r ?_
 refine XL.callKA hE rfl rfl rfl rfl trivial rfl rfl (cln_acts k.acts (by omega)) ?_
 refine XL.e ?_
 refine XK.r ?_
 refine XL.callKA hE rfl rfl rfl rfl trivial rfl rfl (cln_ints k.off (by omega)) ?_
 refine XL.e ?_
 by_cases h0:k.clauses.length=0
 ·refine XK.r ?_
  refine XL.callKA hE rfl rfl rfl rfl trivial rfl rfl (cln_cls k.clauses (by omega)) ?_
  refine XL.e ?_
  refine XK.loop (ι:=Nat) (fun i=>ST.of [(1,.ptr 1 0),(2,.ptr 2 0),(27,.c (.int .i64 k.clauses.length)),(28,.c (.int .i64 0))] [(1,.cells 27 (kC k)),(2,.cells 27 [.c (.int .i64 0),.c (.slice none 0 0),.c (.slice none 0 0),.c (.slice none 0 0),.c (.slice none 0 0),.c (.int .i64 0),.c (.slice none 0 0)])] 1000 43 (fun _=>false))
   (fun i=>i=0) (fun i=>0) 0 rfl (Weak.of hN rfl rfl rfl frI frI) fun i hi=>?_
  refine XK.c ?_ ?_<;>intro hlt<;>try simp at hlt
  ·omega
  ·refine XK.w ?_
   refine XK.q ?_
   rfl
 ·refine XK.r ?_
  refine XL.callMA [700] hE rfl rfl rfl rfl trivial (clnM_cls k.clauses (by omega) (by omega)) rfl rfl rfl rfl rfl ?_
  refine XL.e ?_
  refine XK.loop (ι:=Nat) (fun i=>ST.of [(1,.ptr 1 0),(2,.ptr 2 0),(26,.vec 700 0),(27,.c (.int .i64 k.clauses.length)),(28,.c (.int .i64 i))]
   [(1,.cells 27 [.c (.int .i64 k.parties),intsV k.holders,unitsV k.units,actsV k.acts,.vec 700 0,.c (.int .i64 k.days),intsV k.off]),(2,.cells 27 [.c (.int .i64 0),.c (.slice none 0 0),.c (.slice none 0 0),.c (.slice none 0 0),.c (.slice none 0 0),.c (.int .i64 0),.c (.slice none 0 0)]),(700,clsO 0 k.clauses)] 1000 43 (fun _=>false))
   (fun i=>i≤k.clauses.length) (fun i=>k.clauses.length-i) 0 (Nat.zero_le _) (Weak.of hN rfl rfl rfl frI frI) fun i hi=>?_
  unfold clsO
  refine XK.c ?_ ?_<;>intro hlt<;>try simp at hlt
  ·have fx:k.clauses.getD (i:Int).toNat default=k.clauses.getD i default:=rfl
   have hst:(k.clauses.getD i default).start.length≤8:=(hF.clB hlt).2.2.2.1
   have cc:=cln_cnds (k.clauses.getD i default).start (by omega)
   refine XK.w ?_
   refine XK.s ?_
   rw[fx]
   refine XD.callKA hE rfl rfl rfl rfl trivial rfl rfl (cc) ?_
   refine XD.e ?_
   refine XK.inv ⟨i+1,hlt,Weak.of hN rfl rfl rfl frV ⟨frI,frI,⟨rfl,rfl,rfl⟩,rfl,fun j hj=>setRow_sameG rfl j⟩,by omega⟩
  ·refine XK.w ?_
   refine XK.weak (Weak.frozen (k:=700) hN rfl rfl) ?_
   refine XK.w ?_
   refine XK.q ?_
   rfl
noncomputable def rnO (k:K) (tr:List Int) (n:Nat):List Ob:=[.cells 80 [.c (.slice none 0 0)],.cells 35 [.c (.slice none 0 0)],.cells 32 [.c (.int .i64 0)],
 .cells 80 [.vec 5 (2*n)],.vec 27 7 (2*n) n (fun _=>kC k),.cells 35 [.vec 7 (2*n)],.vec 44 4 (2*n) n (fun i=>stC (runE k tr i).1)]
noncomputable def rnN (k:K) (tr:List Int) (n:Nat):List (Nat×Ob):=[(1,.cells 80 [.c (.slice none 0 0)]),(2,.cells 35 [.c (.slice none 0 0)]),(3,.cells 32 [.c (.int .i64 0)]),
 (4,.cells 80 [.vec 5 (2*n)]),(5,.vec 27 7 (2*n) n (fun _=>kC k)),(6,.cells 35 [.vec 7 (2*n)]),(7,.vec 44 4 (2*n) n (fun i=>stC (runE k tr i).1))]
def rnF:List AV:=frL 79 [(8,.ptr 1 0),(9,.ptr 2 0),(10,.ptr 3 0),(16,.ptr 4 0),(17,.ptr 6 0)]
theorem stages0_ok (k:K) (hk:kW k) (tr:List Int) (htn:tr.length≤4000) (hok:∀j,j≤tr.length→(runE k tr j).2=0) (L b:Nat) (mk:Array Value→Obj)
  (hY:∀i,i≤tr.length→DoesR Tryz.prog L [.agg (kC k++stC (runE k tr i).1),.c (.int .i64 0)] (.lrec mk b rnF::rnO k tr i) (.c (.bool true)) (.lrec mk b rnF::rnO k tr (i+1))):
  DoesM Tryz.prog 141 [.fn (.yield L) [] [],.rptr (kC k),.rptr [.c (.slice none 0 0)],.rptr [intsV tr]] (.lrec mk b rnF::rnO k tr 0) (.tup []) (.lrec mk b rnF::rnO k tr (tr.length+1)):=by
 have hs:=startS_ok k hk
 have e0:runE k tr 0=startS k:=rfl
 have hY0:=hY 0 (Nat.zero_le _)
 have hz0:=hok 0 (Nat.zero_le _)
 rw[e0] at hY0 hz0
 refine DoesM.mk (fun _=>false) 100 TT_ok Tryz.func141 rfl (by kernel_rfl) Tryz.ntmps141 rfl rfl rfl fun E hT hE hN hR=>?_
 have hm:=mixO hE
 refine XK.w ?_
 refine XK.loop (ι:=Unit) (fun _=>ST.of [(0,.fn (.yield L) [] []),(1,.rptr (kC k)),(2,.rptr [.c (.slice none 0 0)]),(3,.rptr [intsV tr]),(5,.ptr 105 0),(21,.c (.int .i64 0)),(22,.c (.int .i64 0))]
   ((0,.lrec mk b rnF)::(105,.cells 27 (kC k))::rnN k tr 0) 1000 112 (fun _=>false)) (fun _=>True) (fun _=>0) () trivial (Weak.of hN rfl rfl rfl frI frI) fun _ _=>?_
 refine XK.c ?_ ?_<;>intro h1<;>try simp at h1
 generalize startS k=s1 at*
 obtain⟨s1,e1⟩:=s1
 dsimp only at hz0
 subst hz0
 refine XK.w ?_
 refine XK.r ?_
 refine XL.callKA hE rfl rfl rfl rfl trivial rfl rfl (hs) ?_
 refine XL.e ?_
 refine XK.w ?_
 refine XK.r ?_
 ((refine XL.yieldM [0,1,2,3,4,5,6,7] hE rfl rfl rfl rfl trivial (hY0) rfl ?_ rfl ?_ rfl rfl rfl ?_);(focus (repeat' (first|exact rfl|exact AvIs.refl _|exact trivial|(intro i hi;rfl)|exact fun _ _=>⟨rfl,AvIs.refl _⟩|(intro i hi;rcases i with _|_|_|_|_|_|_|i<;>first|rfl|exact absurd hi (by simp;done)|(simp at hi;omega))|refine⟨?_,?_⟩)));(focus (repeat' (first|exact rfl|exact AvIs.refl _|exact trivial|(intro i hi;rfl)|exact fun _ _=>⟨rfl,AvIs.refl _⟩|(intro i hi;rcases i with _|_|_|_|_|_|_|i<;>first|rfl|exact absurd hi (by simp;done)|(simp at hi;omega))|refine⟨?_,?_⟩))))
 refine XL.e ?_
 refine XK.c ?_ ?_<;>intro h5<;>try simp at h5
 clear h5
 refine XK.w ?_
 refine XK.loop (ι:=Nat) (fun i=>ST.of [(0,.fn (.yield L) [] []),(1,.rptr (kC k)),(2,.rptr [.c (.slice none 0 0)]),(3,.rptr [intsV tr]),(5,.ptr 105 0),(10,.ptr 1122 0),(56,intsV tr),(57,.c (.int .i64 tr.length)),(58,.c (.int .i64 i))]
   ((0,.lrec mk b rnF)::(105,.cells 27 (kC k))::(1122,.cells 44 (stC (runE k tr i).1))::rnN k tr (i+1)) 2000 112 (fun _=>false))
  (fun i=>i≤tr.length) (fun i=>tr.length-i) 0 (Nat.zero_le _) (by rw[e0];exact(Weak.of hN rfl rfl rfl frI frI)) fun i hi=>?_
 refine XK.c ?_ ?_<;>intro hlt<;>try simp at hlt
 ·have hlt:i<tr.length:=by omega
  have fx:tr.getD (i:Int).toNat default=tr.getD i default:=rfl
  have hYi:=hY (i+1) hlt
  have hz:=hok (i+1) hlt
  have hst:=stepS_ok k hk (runE k tr i).1 (tr.getD i default)
  rw[←runE_step (hok i hi)] at hst
  generalize hr:runE k tr (i+1)=r at*
  obtain⟨r,e⟩:=r
  dsimp only at hz
  subst hz
  refine XK.w ?_
  rw[fx]
  generalize tr.getD i default=t at*
  refine XK.r ?_
  refine XL.callKA hE rfl rfl rfl rfl trivial rfl rfl (hst) ?_
  refine XL.e ?_
  refine XK.w ?_;refine XK.join (ST.of [(0,.fn (.yield L) [] []),(1,.rptr (kC k)),(2,.rptr [.c (.slice none 0 0)]),(3,.rptr [intsV tr]),(5,.ptr 105 0),(10,.ptr 1122 0),(11,.c (.int .i64 0)),(56,intsV tr),(57,.c (.int .i64 tr.length)),(58,.c (.int .i64 i))]
    ((0,.lrec mk b rnF)::(105,.cells 27 (kC k))::(1122,.cells 44 (stC r))::rnN k tr (i+1)) 5000 112 (fun _=>false)) rfl (fun h6=>?_) (fun h6=>?_) ?_
  ·refine XK.w ?_
   refine XK.loop (ι:=Unit) (fun _=>ST.of [(0,.fn (.yield L) [] []),(1,.rptr (kC k)),(2,.rptr [.c (.slice none 0 0)]),(3,.rptr [intsV tr]),(5,.ptr 105 0),(10,.ptr 1122 0),(11,.c (.int .i64 0)),(56,intsV tr),(57,.c (.int .i64 tr.length)),(58,.c (.int .i64 i)),(76,.c (.int .i64 0)),(77,.c (.int .i64 0))]
    ((0,.lrec mk b rnF)::(105,.cells 27 (kC k))::(1122,.cells 44 (stC r))::rnN k tr (i+1)) 3000 112 (fun _=>false)) (fun _=>True) (fun _=>0) () trivial (Weak.of hN rfl rfl rfl frI frI) fun _ _=>?_
   refine XK.c ?_ ?_<;>intro h7<;>try simp at h7
   refine XK.w ?_
   exact XK.inv (Weak.of hN rfl rfl rfl frI frI)
  ·refine XK.w ?_
   exact XK.inv (Weak.of hN rfl rfl rfl frI frI)
  refine XK.r ?_
  ((refine XL.yieldM [0,1,2,3,4,5,6,7] hE rfl rfl rfl rfl trivial (hYi) rfl ?_ rfl ?_ rfl rfl rfl ?_);(focus (repeat' (first|exact rfl|exact AvIs.refl _|exact trivial|(intro i hi;rfl)|exact fun _ _=>⟨rfl,AvIs.refl _⟩|(intro i hi;rcases i with _|_|_|_|_|_|_|i<;>first|rfl|exact absurd hi (by simp;done)|(simp at hi;omega))|refine⟨?_,?_⟩)));(focus (repeat' (first|exact rfl|exact AvIs.refl _|exact trivial|(intro i hi;rfl)|exact fun _ _=>⟨rfl,AvIs.refl _⟩|(intro i hi;rcases i with _|_|_|_|_|_|_|i<;>first|rfl|exact absurd hi (by simp;done)|(simp at hi;omega))|refine⟨?_,?_⟩))))
  refine XL.e ?_
  refine XK.c ?_ ?_<;>intro h8<;>try simp at h8
  refine XK.w ?_
  refine XK.inv ⟨i+1,hlt,?_,by omega⟩
  rw[hr]
  exact(Weak.of hN rfl rfl rfl frI frI)
 ·have hie:i=tr.length:=by omega
  subst hie
  refine XK.w ?_
  refine XK.t [0,1,2,3,4,5,6,7] ?_ ?_
  ·exact frI
  ·exact frI
theorem catF_self (f h:Nat→List AV) (n:Nat) (h0:h 0=f n):∀j,j<n+1→f j=catF n f h j:=by
 intro j hj
 unfold catF
 by_cases h1:j<n
 ·rw[show Nat.blt j n=true by simpa using h1];rfl
 ·obtain rfl:j=n:=by omega
  rw[show Nat.blt j j=false by cases hb:Nat.blt j j with|false=>rfl|true=>simp at hb]
  rw[cond_false,Nat.sub_self,h0]
theorem stagesN_ok (k:K) (tr:List Int):Does Tryz.prog 90 [kV k,.c (.slice none 0 0),intsV tr] (.fn (.func 141) [] [.rptr (kC k),.rptr [.c (.slice none 0 0)],.rptr [intsV tr]]):=by
 refine Does.mk (fun _=>false) TT_ok Tryz.func90 rfl (by kernel_rfl) Tryz.ntmps90 rfl rfl fun E hT hE hN hR=>?_
 have hm:=mixO hE
 refine XK.w ?_
 refine XK.weak (Weak.trans (Weak.frozenC (k:=3) hN rfl rfl rfl) (Weak.trans (Weak.frozenC (k:=4) hN rfl rfl rfl) (Weak.frozenC (k:=5) hN rfl rfl rfl))) ?_
 refine XK.q ?_
 rfl
set_option maxHeartbeats 1000000 in
theorem run0_ok (k:K) (hk:kW k) (tr:List Int) (htn:tr.length≤4000) (hok:∀j,j≤tr.length→(runE k tr j).2=0) (known:Int):
  Does Tryz.prog 52 [kV k,.c (.slice none 0 0),.c (.int .i64 known),intsV tr] (.tup [.rs 7 (tr.length+1) (fun _=>kC k),.rs 4 (tr.length+1) (fun i=>stC (runE k tr i).1),.c (.int .i64 0)]):=by
 have hs:=startS_ok k hk
 have h0:=hok 0 (Nat.zero_le _)
 have h0:(startS k).2=0:=h0
 have hv:=(startS_zero hk h0).1
 have hcp:=copiedC_ok k hv hk
 have hst:=stagesN_ok k tr
 generalize startS k=s0 at hs h0
 obtain⟨s0,e0⟩:=s0
 dsimp only at h0
 subst h0
 refine Does.mk (fun _=>false) TT_ok Tryz.func52 rfl (by kernel_rfl) Tryz.ntmps52 rfl rfl fun E hT hE hN hR=>?_
 have hm:=mixO hE
 refine XK.w ?_
 refine XK.r ?_
 refine XL.callKA hE rfl rfl rfl rfl trivial rfl rfl (hs) ?_
 refine XL.e ?_
 refine XK.c ?_ ?_<;>intro h1<;>try simp at h1
 refine XK.c ?_ ?_<;>intro h2<;>try simp at h2
 ·omega
 refine XK.w ?_
 refine XK.r ?_
 refine XL.callKA hE rfl rfl rfl rfl trivial rfl rfl (order0_ok) ?_
 refine XL.e ?_
 refine XK.loop (ι:=Unit) (fun _=>ST.of [(3,intsV tr),(4,.ptr 4 0),(8,.ptr 8 0),(9,.ptr 9 0),(10,.ptr 10 0),(13,.c (.slice none 0 0)),(37,.c (.int .i64 0)),(38,.c (.int .i64 0))]
   [(4,.cells 27 (kC k)),(8,.cells 80 [.c (.slice none 0 0)]),(9,.cells 35 [.c (.slice none 0 0)]),(10,.cells 32 [.c (.int .i64 0)])] 1000 79 (fun _=>false)) (fun _=>True) (fun _=>0) () trivial (Weak.of hN rfl rfl rfl frI frI) fun _ _=>?_
 refine XK.c ?_ ?_<;>intro h3<;>try simp at h3
 refine XK.w ?_
 refine XK.r ?_
 refine XL.callKA hE rfl rfl rfl rfl trivial rfl rfl (hst) ?_
 refine XL.e ?_
 refine XK.weak (Weak.trans (Weak.ghostC (c:=1095) (k:=2017) (e:=27) (sz:=7) (f:=fun _=>[]) rfl rfl rfl) (Weak.trans (Weak.ghostC (c:=1175) (k:=2097) (e:=44) (sz:=4) (f:=fun _=>[]) rfl rfl rfl)
  (Weak.of (L:=[(8,.ptr 8 0),(9,.ptr 9 0),(10,.ptr 10 0),(16,.ptr 1095 0),(17,.ptr 1175 0),(60,.fn (.func 141) [] [.rptr (kC k),.rptr [.c (.slice none 0 0)],.rptr [intsV tr]])])
   (O:=[(8,.cells 80 [.c (.slice none 0 0)]),(9,.cells 35 [.c (.slice none 0 0)]),(10,.cells 32 [.c (.int .i64 0)]),(1095,.cells 80 [.vec 2017 0]),(2017,.vec 27 7 0 0 (fun _=>kC k)),(1175,.cells 35 [.vec 2097 0]),(2097,.vec 44 4 0 0 (fun i=>stC (runE k tr i).1))])
   (nx:=3000) (nt:=79) (md:=fun _=>false) hN rfl rfl rfl frI (by(repeat' (first|exact rfl|exact AvIs.refl _|exact trivial|exact fun _ _=>rfl|exact fun _ _=>⟨rfl,AvIs.refl _⟩|exact cI (by omega)|exact(fun i hi=>absurd hi (Nat.not_lt_zero _))|refine⟨?_,?_⟩)))))) ?_
 refine XK.rangeFunc 900 [8,9,10,1095,2017,1175,2097] (frL 79 [(8,.ptr 8 0),(9,.ptr 9 0),(10,.ptr 10 0),(16,.ptr 1095 0),(17,.ptr 1175 0)])
  (ST.of [(8,.ptr 8 0),(9,.ptr 9 0),(10,.ptr 10 0),(16,.ptr 1095 0),(17,.ptr 1175 0)] [(8,.cells 80 [.c (.slice none 0 0)]),(9,.cells 35 [.c (.slice none 0 0)]),(10,.cells 32 [.c (.int .i64 0)]),(1095,.cells 80 [.vec 2017 (2*(tr.length+1))]),(2017,.vec 27 7 (2*(tr.length+1)) (tr.length+1) (fun _=>kC k)),(1175,.cells 35 [.vec 2097 (2*(tr.length+1))]),(2097,.vec 44 4 (2*(tr.length+1)) (tr.length+1) (fun i=>stC (runE k tr i).1))] 4000 79 (fun _=>false))
  (res:=.tup []) (args':=[.rptr (kC k),.rptr [.c (.slice none 0 0)],.rptr [intsV tr]]) (s:=.ready) (pend:=none) (O':=rnO k tr (tr.length+1)) (O:=rnO k tr 0) hR rfl trivial rfl (frL_length _ _) (frL_is frI) (fun L D fn=>?_) rfl frI rfl rfl frI rfl rfl (by simp) (fun L D fn cs=>(Weak.of hN rfl rfl rfl frI frI)) ?_
 ·rw[hE]
  refine stages0_ok k hk tr htn hok L L _ (fun i hi=>?_)
  refine DoesR.mkT TT_ok (fun _=>false) 100 (ST.of [(8,.ptr 1 0),(9,.ptr 2 0),(10,.ptr 3 0),(16,.ptr 4 0),(17,.ptr 6 0),(18,.ptr 118 0),(19,.c (.int .i64 0))]
   ((0,.lrec (recOf fn _ _ _ D .ready none) L rnF)::rnN k tr i++[(118,.cells 186 (kC k++stC (runE k tr i).1))]) 1000 79 (fun _=>false)) rfl ?_ (Nat.le_refl 7) (fun E hT hE hN hR=>?_) rfl (fun E hT hE hN hR=>?_)
  ·intro x hx
   have hx:x=61∨x=62:=by simpa using hx
   have:rnF.length=79:=frL_length _ _
   rcases hx with rfl|rfl
   ·show 61<rnF.length;rw[this];omega
   ·show 62<rnF.length;rw[this];omega
  ·have hm:=mixO hE
   refine XK.w ?_
   exact XK.nil ⟨rfl,(Weak.of hN rfl rfl rfl frI frI)⟩
  ·have hm:=mixO hE
   refine XK.c ?_ ?_<;>intro h5<;>try simp at h5
   refine XK.weak (Weak.trans (Weak.steal 500 (k:=5) (s:=2*i) (f':=fun _=>[]) hN rfl rfl rfl) (Weak.trans (Weak.steal 501 (k:=7) (s:=2*i) (f':=fun _=>[]) hN rfl rfl rfl) (Weak.of (L:=[(8,.ptr 1 0),(9,.ptr 2 0),(10,.ptr 3 0),(16,.ptr 4 0),(17,.ptr 6 0),(18,.ptr 118 0)])
     (O:=[(0,.lrec (recOf fn _ _ _ D .busy none) L rnF),(1,.cells 80 [.c (.slice none 0 0)]),(2,.cells 35 [.c (.slice none 0 0)]),(3,.cells 32 [.c (.int .i64 0)]),(4,.cells 80 [.vec 500 0]),(5,.vec 27 7 (2*i+1) 0 (fun _=>[])),(6,.cells 35 [.vec 501 0]),(7,.vec 44 4 (2*i+1) 0 (fun _=>[])),
      (500,.vec 27 7 0 i (fun _=>kC k)),(501,.vec 44 4 0 i (fun i=>stC (runE k tr i).1)),(118,.cells 186 (kC k++stC (runE k tr i).1))]) (nx:=3000) (nt:=79) (md:=fun _=>false) hN rfl rfl rfl frI
     ⟨⟨rfl,rfl,rfl⟩,frI,frI,frI,⟨rfl,congrArg (fun x=>[x]) (show AV.map (stealG 7 (2*i) 501) (AV.map (stealG 5 (2*i) 500) (.vec 5 (2*i)))=.vec 500 0 by rw[show AV.map (stealG 5 (2*i) 500) (.vec 5 (2*i))=.vec 500 0 from stealG_self 5 (2*i) 500];rfl)⟩,frI,⟨rfl,congrArg (fun x=>[x]) (show stealG 7 (2*i) 501 (.vec 7 (2*i))=.vec 501 0 from stealG_self 7 (2*i) 501)⟩,frI,frI,frI,frI⟩))) ?_
   refine XK.s ?_
   refine XD.callKA hE rfl rfl rfl rfl trivial rfl rfl (hcp) ?_
   refine XD.e ?_
   refine XK.nilY (Weak.trans (Weak.give (k:=5) (q:=500) (2*(i+1)) hN rfl rfl rfl rfl (by omega)) (Weak.give (k:=7) (q:=501) (2*(i+1)) hN rfl rfl rfl rfl (by omega))) ?_
   (first|refine XK.outY [0,1,2,3,4,5,6,7] hN rfl rfl rfl ?_ ?_ ?_|refine XK.outYN [0,1,2,3,4,5,6,7] hN rfl rfl rfl ?_ ?_ ?_)
   ·exact⟨⟨rfl,rfl,rfl⟩,frI,frI,frI,frI,⟨⟨rfl,rfl,rfl⟩,rfl,catF_self (fun _=>kC k) _ i rfl⟩,frI,⟨⟨rfl,rfl,rfl⟩,rfl,catF_self (fun i=>stC (runE k tr i).1) _ i rfl⟩⟩
   ·rfl
   ·rfl
 ·refine XK.weak (Weak.trans (Weak.stamp (k:=2017) (t:=0) hN rfl rfl) (Weak.trans (Weak.stamp (k:=2097) (t:=0) hN rfl rfl) (Weak.of (L:=[(8,.ptr 8 0),(9,.ptr 9 0),(10,.ptr 10 0),(16,.ptr 1095 0),(17,.ptr 1175 0)])
    (O:=[(8,.cells 80 [.c (.slice none 0 0)]),(9,.cells 35 [.c (.slice none 0 0)]),(10,.cells 32 [.c (.int .i64 0)]),(1095,.cells 80 [.vec 2017 0]),(2017,.vec 27 7 0 (tr.length+1) (fun _=>kC k)),(1175,.cells 35 [.vec 2097 0]),(2097,.vec 44 4 0 (tr.length+1) (fun i=>stC (runE k tr i).1))])
    (nx:=5000) (nt:=79) (md:=fun _=>false) hN rfl rfl rfl frI ⟨frI,frI,frI,⟨rfl,congrArg (fun x=>[x]) (show AV.map (stampG 2097 (2*(tr.length+1)) 0) (AV.map (stampG 2017 (2*(tr.length+1)) 0) (.vec 2017 (2*(tr.length+1))))=.vec 2017 0 by rw[show AV.map (stampG 2017 (2*(tr.length+1)) 0) (.vec 2017 (2*(tr.length+1)))=.vec 2017 0 from stampG_self 2017 (2*(tr.length+1)) 0];rfl)⟩,frI,⟨rfl,congrArg (fun x=>[x]) (show AV.map (stampG 2097 (2*(tr.length+1)) 0) (.vec 2097 (2*(tr.length+1)))=.vec 2097 0 from stampG_self 2097 (2*(tr.length+1)) 0)⟩,frI⟩))) ?_
  refine XK.weak (Weak.trans (Weak.frozen (k:=2017) hN rfl rfl) (Weak.frozen (k:=2097) hN rfl rfl)) ?_
  refine XK.w ?_
  refine XK.q ?_
  rfl
end
section
open Go.Eng Go.RowKit Go.Lib Go.Sort
def zI:List AV:=[.c (.int .i64 0)]
theorem start_ok (k:K) (hF:KFacts k) (hv:(kValid k).1=0) (l:List Int) (hl:l.length≤4000) (hok:∀j,j≤l.length→(runE k l j).2=0):Does Tryz.prog 29 [kV k,.c (.slice none 0 0),intsV l] (.tup [.agg (stgC k l),.c (.int .i64 0)]):=by
 have hr:=run0_ok k hF.w l hl hok 2000
 have hd0:=(startS_zero hF.w (hok 0 (Nat.zero_le _))).2.2
 have hd0:(runE k l 0).1.day=0:=hd0
 have hself:=selfK k (by have:=hF.nh;omega) (by have:=unitsC_len hv;omega) (by have:=hF.na;omega) (by have:=hF.nc;omega) (offW_len hF) (fun i hi=>by have:(k.clauses.getD i default).start.length≤8:=(hF.clB hi).2.2.2.1;omega)
 unfold stgC
 refine Does.mk (fun _=>false) TT_ok Tryz.func29 rfl (by kernel_rfl) Tryz.ntmps29 rfl rfl fun E hT hE hN hR=>?_
 have hm:=mixO hE
 refine XK.w ?_
 refine XK.r ?_
 refine XL.callKA hE rfl rfl rfl rfl trivial rfl rfl (hr) ?_
 refine XL.e ?_
 refine XK.c ?_ ?_<;>intro h1<;>try simp at h1
 refine XK.w ?_
 refine XK.loop (ι:=Nat) (fun i=>ST.of [(6,.ptr 6 0),(7,.c (.int .i64 0)),(8,.rs 7 (l.length+1) (fun _=>kC k)),(9,.rs 4 (l.length+1) (fun i=>stC (runE k l i).1)),(11,.ptr 215 0),(31,.rs 4 (l.length+1) (fun i=>stC (runE k l i).1)),(32,.c (.int .i64 (l.length+1:Nat))),(33,.c (.int .i64 i))]
   [(6,.cells 82 [.c (.slice none 0 0),.c (.slice none 0 0),.c (.slice none 0 0),.c (.slice none 0 0)]),(215,.cells 82 [.rs 7 (l.length+1) (fun _=>kC k),.rs 4 (l.length+1) (fun i=>stC (runE k l i).1),intsV l,.vec 700 0]),(700,.vec 3 1 0 i (fun _=>zI))] 1000 68 (fun _=>false))
  (fun i=>i≤l.length+1) (fun i=>l.length+1-i) 0 (Nat.zero_le _)
  (Weak.trans (Weak.ghostAt (c:=215) (k:=700) (i0:=3) (e:=3) (sz:=1) (f:=fun _=>[]) rfl rfl rfl rfl) (Weak.of hN rfl rfl rfl frV (by(repeat' (first|exact rfl|exact AvIs.refl _|exact trivial|exact fun _ _=>rfl|exact fun _ _=>⟨rfl,AvIs.refl _⟩|exact cI (by omega)|exact(fun j hj=>absurd hj (Nat.not_lt_zero _))|refine⟨?_,?_⟩))))) fun i hi=>?_
 refine XK.c ?_ ?_<;>intro hlt<;>try simp at hlt
 ·have hday:i=0→(runE k l i).1.day=0:=fun h=>by rw[h];exact hd0
  refine XK.w ?_
  refine XK.weak (Weak.of (L:=[(6,.ptr 6 0),(7,.c (.int .i64 0)),(8,.rs 7 (l.length+1) (fun _=>kC k)),(9,.rs 4 (l.length+1) (fun i=>stC (runE k l i).1)),(11,.ptr 215 0),(12,.c (.int .i64 i)),(14,.c (.int .i64 (runE k l i).1.day)),(31,.rs 4 (l.length+1) (fun i=>stC (runE k l i).1)),(32,.c (.int .i64 (l.length+1:Nat))),(33,.c (.int .i64 i))])
   (O:=[(6,.cells 82 [.c (.slice none 0 0),.c (.slice none 0 0),.c (.slice none 0 0),.c (.slice none 0 0)]),(215,.cells 82 [.rs 7 (l.length+1) (fun _=>kC k),.rs 4 (l.length+1) (fun i=>stC (runE k l i).1),intsV l,.vec 700 0]),(700,.vec 3 1 0 i (fun _=>zI))]) (nx:=2000) (nt:=68) (md:=fun _=>false) hN rfl rfl rfl frI frI) ?_
  generalize hdd:(runE k l i).1.day=dd at hday ⊢
  clear hdd
  refine XK.s ?_
  refine XD.callKG hE rfl rfl rfl rfl rfl rfl rfl (by first|(simp[AllP,impG];done)|(simp only[AllP,impG];grind)) rfl rfl (fun hgd=>⟨hself,(by(repeat' (first|exact rfl|exact AvIs.refl _|exact trivial|(intro i hi;rfl)|exact fun _ _=>⟨rfl,AvIs.refl _⟩|(intro i hi;rcases i with _|_|_|_|_|_|_|i<;>first|rfl|exact absurd hi (by simp;done)|(simp at hi;omega))|refine⟨?_,?_⟩)))⟩) rfl ?_
  refine XD.e ?_
  refine XK.w ?_;refine XK.join (ST.of [(6,.ptr 6 0),(7,.c (.int .i64 0)),(8,.rs 7 (l.length+1) (fun _=>kC k)),(9,.rs 4 (l.length+1) (fun i=>stC (runE k l i).1)),(11,.ptr 215 0),(12,.c (.int .i64 i)),(14,.c (.int .i64 0)),(31,.rs 4 (l.length+1) (fun i=>stC (runE k l i).1)),(32,.c (.int .i64 (l.length+1:Nat))),(33,.c (.int .i64 i))]
   [(6,.cells 82 [.c (.slice none 0 0),.c (.slice none 0 0),.c (.slice none 0 0),.c (.slice none 0 0)]),(215,.cells 82 [.rs 7 (l.length+1) (fun _=>kC k),.rs 4 (l.length+1) (fun i=>stC (runE k l i).1),intsV l,.vec 700 0]),(700,.vec 3 1 0 i (fun _=>zI))] 3000 68 (fun _=>false)) rfl (fun h4=>?_) (fun h4=>?_) ?_
  ·refine XK.w ?_
   exact XK.inv (Weak.of hN rfl rfl rfl frI frI)
  ·have hi0:i=0:=by simp at h4;omega
   rw[hday hi0]
   refine XK.w ?_
   exact XK.inv (Weak.of hN rfl rfl rfl frI frI)
  refine XK.w ?_
  refine XK.inv ⟨i+1,by omega,Weak.trans (Weak.stamp (k:=700) (t:=0) hN rfl rfl) (Weak.of hN rfl rfl rfl frV ⟨frI,frI,⟨rfl,rfl,rfl⟩,rfl,catF_self (fun _=>zI) _ i rfl⟩),by omega⟩
 ·obtain rfl:i=l.length+1:=by omega
  refine XK.w ?_
  refine XK.weak (Weak.frozen (k:=700) hN rfl rfl) ?_
  refine XK.w ?_
  refine XK.q ?_
  rfl
theorem loT_at {k:K} {p:Int} {l:List Int} {P:List (List Nat)} {s:Mm×Lg}:∀i,0≤(loT k p l P s i).1.2.1.1
 |0=>Int.le_refl _
 |i+1=>by
  rw[loT]
  split
  ·exact loT_at i
  ·unfold loS
   split
   ·exact Int.le_refl _
   ·split
    ·exact Int.le_refl _
    ·split
     ·exact Int.natCast_nonneg i
     ·exact Int.le_refl _
noncomputable def fiR (k:K) (p:Int) (l:List Int):Lo:=(loT k p l (compsL k) (fun _=>none,fun _=>none) l.length).1
noncomputable def fiA (r:Lo):Int:=if r.2.2.2≠0 then 0 else if r.2.2.1=false then -1 else r.2.1.1
theorem first_ok (k:K) (hF:KFacts k) (hv:(kValid k).1=0) (p:Int) (hp:0≤p∧p<k.parties) (l:List Int) (hl:l.length≤4000) (hok:∀j,j≤l.length→(runE k l j).2=0):Does Tryz.prog 13 [kV k,.c (.slice none 0 0),.c (.int .i64 p),intsV l] (.tup [.c (.int .i64 (fiA (fiR k p l))),.c (.int .i64 (fiR k p l).2.2.2)]):=by
 have hkn:=known_ok k hF.w hv p hp
 have hst:=start_ok k hF hv l hl hok
 have hnj:=newJudge_ok p
 have hlo:=loses_ok k hF hv p hp l hl hok (fun _=>none) (fun _=>none)
 unfold stgC at hst hlo
 unfold fiR
 generalize loT k p l (compsL k) (fun _=>none,fun _=>none) l.length=R at*
 obtain⟨⟨⟨m9,g9⟩,dd,b9,e9⟩,st9⟩:=R
 dsimp only at hlo ⊢
 unfold fiA
 dsimp only
 refine Does.mk (fun _=>false) TT_ok Tryz.func13 rfl (by kernel_rfl) Tryz.ntmps13 rfl rfl fun E hT hE hN hR=>?_
 have hm:=mixO hE
 refine XK.w ?_
 refine XK.r ?_
 refine XL.callLA hE rfl rfl rfl rfl trivial rfl (hkn) rfl ?_
 refine XL.e ?_
 refine XK.c ?_ ?_<;>intro h1<;>try simp at h1
 refine XK.r ?_
 refine XL.callKA hE rfl rfl rfl rfl trivial rfl rfl (hst) ?_
 refine XL.e ?_
 refine XK.c ?_ ?_<;>intro h2<;>try simp at h2
 refine XK.s ?_
 refine XD.callMA [701,702,703,704,705] hE rfl rfl rfl rfl trivial (hnj) rfl rfl rfl rfl rfl ?_
 refine XD.g ?_
 refine XD.callMA [701,702,703,704,705] hE rfl rfl rfl rfl trivial (hlo) rfl rfl rfl rfl rfl ?_
 refine XD.e ?_
 refine XK.c ?_ ?_<;>intro h3
 ·have h3:e9≠0:=by simpa using h3
  rw[if_pos h3]
  refine XK.w ?_
  refine XK.q ?_
  rfl
 have h3:¬e9≠0:=by simpa using h3
 rw[if_neg h3]
 have h3:e9=0:=by simpa using h3
 subst h3
 refine XK.c ?_ ?_<;>intro h4
 ·have h4:b9=false:=by simpa using h4
  rw[if_pos h4]
  refine XK.w ?_
  refine XK.q ?_
  rfl
 ·have h4:¬b9=false:=by simpa using h4
  rw[if_neg h4]
  refine XK.w ?_
  refine XK.q ?_
  rfl
end
end Go.Proofs.YtgpkkllbejgmlaaGreatDoor
