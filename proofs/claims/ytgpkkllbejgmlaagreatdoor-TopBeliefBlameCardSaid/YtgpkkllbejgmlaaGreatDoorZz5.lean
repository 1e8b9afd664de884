import Derived.Test.YtgpkkllbejgmlaaGreatDoorZz4
set_option linter.unusedSimpArgs false
set_option linter.unusedVariables false
section
namespace Go.Eng
def makeF (T:TE) (k t:Nat) (x y:AV):Option (List Prop×Eff):=
 match T.find t,x,y with
 |some ti,.c (.int _ n),.c (.int _ c)=>match ti.kind with
  |.slice e=>match T.find e with
   |some te=>bif Nat.beq te.zero.length te.size&&Nat.blt 0 te.size then
     some ([0≤n∧n≤c,c≤9223372036854775807,(te.bytes:Int)*c≤281474976710656],⟨.vec k 0,some (k,.vec e te.size 0 n.toNat (fun _=>te.zero.map AV.c))⟩) else none
   |none=>none
  |_=>none
 |_,_,_=>none
def cpF (m:Nat) (f f0:Nat→List AV):Nat→List AV:=fun i=>bif Nat.blt i m then f i else f0 i
theorem cpF_lt {m i:Nat} {f f0:Nat→List AV} (h:i<m):cpF m f f0 i=f i:=by
 unfold cpF;rw[show Nat.blt i m=true by simpa using h,cond_true]
theorem cpF_ge {m i:Nat} {f f0:Nat→List AV} (h:¬i<m):cpF m f f0 i=f0 i:=by
 unfold cpF
 have:Nat.blt i m=false:=by
  cases hb:Nat.blt i m with
  |false=>rfl
  |true=>simp at hb;exact absurd hb h
 rw[this,cond_false]
def copyG (T:TE) (t k s1:Nat) (o:Option Ob) (r:Option (Nat×Nat×(Nat→List AV))):Option (List Prop×Eff):=
 match T.find t with
 |some ti=>match ti.kind with
  |.slice e=>match T.find e,r with
   |some te,some (sz,m,f)=>(match o with
    |some (.vec e' sz' s' n f0)=>bif Nat.beq e e'&&Nat.beq te.size sz'&&Nat.beq s1 s'&&Nat.beq sz sz' then
      some ([m≤n,∀i,i<m→(f i).all (oneAV (fun _=>none))=true],⟨.c (.int .i64 (m:Nat)),some (k,.vec e sz s1 n (cpF m f f0))⟩) else none
    |_=>none)
   |_,_=>none
  |_=>none
 |none=>none
def copyF (T:TE) (ob:Nat→Option Ob) (t:Nat) (s x:AV):Option (List Prop×Eff):=
 match s with
 |.vec k s1=>copyG T t k s1 (ob k) (srcF ob x)
 |_=>none
section
variable {E:Env} {st:ST} {a:Act} {w:World} {ρ:Rho} {T:TE}
theorem make_ok (hT:TOk E.P T) (h:SatR E st a w ρ) {k t:Nat} {x y:AV} {u v:Value} {obl:List Prop} {eff:Eff} (hm:makeF T k t x y=some (obl,eff)) (ho:∀p∈obl,p) (hk:st.ob k=none)
  (hx:R w (E.good w ρ) ρ x u) (hy:R w (E.good w ρ) ρ y v):
  ∃z w' ρ' o,(Instr.makeSlice t u v).run E.P w=.ok z w'∧eff.ob=some (k,o)∧SatR E {st with ob:=upd st.ob k (some o)} a w' ρ'∧R w' (E.good w' ρ') ρ' eff.av z:=by
 unfold makeF at hm
 split at hm
 ·rename_i ti k1 n k2 c ht
  have hkd:=(hT t ti ht).kind
  split at hm
  ·rename_i e hkk
   rw[hkk] at hkd
   simp only[KindOk] at hkd
   split at hm
   ·rename_i te hte
    cases hb:Nat.beq te.zero.length te.size&&Nat.blt 0 te.size with
    |false=>simp[hb] at hm
    |true=>
     simp only[hb,cond_true,Option.some.injEq,Prod.mk.injEq] at hm
     obtain⟨rfl,rfl⟩:=hm
     simp only[Bool.and_eq_true] at hb
     have hzl:=Nat.eq_of_beq_eq_true hb.1
     have hz0:0<te.size:=Nat.lt_of_succ_le (Nat.le_of_ble_eq_true hb.2)
     obtain⟨h0,hnc⟩:0≤n∧n≤c:=ho _ (by simp)
     have hmax:c≤9223372036854775807:=ho _ (by simp)
     have hby:(te.bytes:Int)*c≤281474976710656:=ho _ (by simp)
     obtain⟨inf,z,hi,hsz,hbt,hz,hzc⟩:=(hT e te hte).info
     rw[hx.c_inv,hy.c_inv]
     have hr:=run_make (P:=E.P) w t e inf z hkd hi hz k1 k2 n c h0 hnc (by rw[hbt];exact hby) hmax
     have hms:(madeCells z.cells (c.toNat*inf.size)).size=c.toNat*te.size:=by rw[size_madeCells,hsz]
     refine⟨_,_,_,_,hr,rfl,h.allocRow (n:=n.toNat) (cap:=c.toNat) (sz:=te.size) (e:=e) (f:=fun _=>te.zero.map AV.c) hk (by omega) (by simp only[maxLen];omega) hms (fun i _=>by simp[hzl]) (fun i j y hi' hy'=>?_),.vec (upd_same _ _ _)⟩
     simp only[List.getElem?_map,Option.map_eq_some_iff] at hy'
     obtain⟨u',hu',rfl⟩:=hy'
     have hj:j<te.size:=by rw[←hzl];exact(List.getElem?_eq_some_iff.1 hu').1
     have hij:i*te.size+j<c.toNat*te.size:=by
      have:(i+1)*te.size≤c.toNat*te.size:=Nat.mul_le_mul_right _ (by omega)
      rw[Nat.add_mul] at this;omega
     have hmod:(i*te.size+j)%te.zero.length=j:=by rw[hzl,Nat.mul_comm,Nat.mul_add_mod,Nat.mod_eq_of_lt hj]
     have hjl:j<te.zero.length:=by omega
     have:(madeCells z.cells (c.toNat*inf.size)).getD (i*te.size+j) undef=u':=by
      have hlt:i*te.size+j<(Array.range (c.toNat*inf.size)).size:=by simp[hsz,hij]
      unfold madeCells
      simp only[Array.getD_eq_getD_getElem?,Array.getElem?_map,Array.getElem?_eq_getElem hlt,Option.map_some,Option.getD_some,Array.getElem_range,hzc,List.size_toArray,hmod]
      have hu2:=(List.getElem?_eq_some_iff.1 hu').2
      simp[hjl,hu2]
     rw[this]
     exact .c
   ·cases hm
  ·cases hm
 ·cases hm
theorem src_ok (h:SatR E st a w ρ) {x:AV} {v:Value} {sz m:Nat} {f:Nat→List AV} (hs:srcF st.ob x=some (sz,m,f)) (hx:R w (E.good w ρ) ρ x v):
  ∃A cap,v=.slice A m cap∧m≤maxLen∧(∀i,i<m→(f i).length=sz)∧(0<m→∃ad,A=some ad∧∀i,i<m→Cells w (E.good w ρ) Rho.none (ad.add (i*sz)) (f i)):=by
 unfold srcF at hs
 split at hs
 ·simp only[Option.some.injEq,Prod.mk.injEq] at hs
  obtain⟨rfl,rfl,rfl⟩:=hs
  obtain⟨A,cap,rfl,hn,hm,hf,hc⟩:=hx.rs_inv
  exact⟨A,cap,rfl,by omega,hf,fun h0=>let⟨ad,h1,_,h2⟩:=hc h0;⟨ad,h1,h2⟩⟩
 ·rename_i k s
  split at hs
  ·rename_i e sz' s' n f' ho
   cases hb:Nat.beq s s' with
   |false=>simp[hb] at hs
   |true=>
    simp only[hb,cond_true,Option.some.injEq,Prod.mk.injEq] at hs
    obtain⟨rfl,rfl,rfl⟩:=hs
    obtain⟨_,_,_,_,xs,ho',hk',hown,hf,hr⟩:=h.live_vec (by simp[live,ho,hb]) hx
    have:=Nat.eq_of_beq_eq_true hb
    subst this
    rw[ho] at ho'
    injection ho' with ho'
    injection ho' with q1 q2 _ q4 q5
    subst q1 q2 q4 q5
    rcases hown.2 with⟨rfl,rfl⟩|⟨g,cap,cur,rfl,_,hh,hnc,hm,hsc,htake⟩
    ·exact⟨none,0,rfl,Nat.zero_le _,hf,fun h0=>absurd h0 (by omega)⟩
    ·refine⟨some ⟨g,0,none⟩,cap,rfl,by omega,hf,fun _=>⟨_,rfl,fun i hi j x hx'=>?_⟩⟩
     have hj:j<sz':=by
      have:=(List.getElem?_eq_some_iff.1 hx').1
      rw[hf i hi] at this;exact this
     have hij:i*sz'+j<n*sz':=by
      have:(i+1)*sz'≤n*sz':=Nat.mul_le_mul_right sz' hi
      rw[Nat.add_mul] at this;omega
     have hlt:i*sz'+j<cur.size:=by have:=Nat.mul_le_mul_right sz' hnc;omega
     refine⟨cur.getD (i*sz'+j) undef,?_,?_⟩
     ·rw[add_add,Addr.add_lit,Nat.zero_add,cell_of_row w g _ cur e (0,0) hh]
      simp[hlt]
     ·have:=hr i j x hi hx'
      rw[←htake] at this
      simpa[List.getD,List.getElem?_take,hij] using this
  ·cases hs
 ·cases hs
theorem flat_vals {G:Nat→Prop} {ad:Addr} {sz m:Nat} {f:Nat→List AV} (hf:∀i,i<m→(f i).length=sz) (hc:∀i,i<m→Cells w G Rho.none (ad.add (i*sz)) (f i)):
  ∃news:List Value,news.length=m*sz∧(∀j u,news[j]?=some u→w.cell? (ad.add j)=some u)∧∀i j x,i<m→(f i)[j]?=some x→R w G Rho.none x (news.getD (i*sz+j) undef):=by
 refine⟨(List.range (m*sz)).map fun j=>(w.cell? (ad.add j)).getD undef,by simp,fun j u hu=>?_,fun i j x hi hx=>?_⟩
 ·simp only[List.getElem?_map,Option.map_eq_some_iff] at hu
  obtain⟨j',hj',rfl⟩:=hu
  obtain⟨hlt,he⟩:=List.getElem?_eq_some_iff.1 hj'
  simp only[List.length_range] at hlt
  simp only[List.getElem_range] at he
  subst he
  have hsz:0<sz:=by
   rcases Nat.eq_zero_or_pos sz with h0|h0
   ·subst h0;simp at hlt
   ·exact h0
  have hq:j/sz<m:=Nat.div_lt_of_lt_mul (by rw[Nat.mul_comm];exact hlt)
  have hr:j%sz<(f (j/sz)).length:=by rw[hf _ hq];exact Nat.mod_lt _ hsz
  obtain⟨v,hv,_⟩:=hc _ hq (j%sz) _ (List.getElem?_eq_getElem hr)
  rw[add_add,show j/sz*sz+j%sz=j by rw[Nat.mul_comm];exact Nat.div_add_mod j sz] at hv
  simp[hv]
 ·have hj:j<sz:=by
   have:=(List.getElem?_eq_some_iff.1 hx).1
   rw[hf i hi] at this;exact this
  have hij:i*sz+j<m*sz:=by
   have:(i+1)*sz≤m*sz:=Nat.mul_le_mul_right sz hi
   rw[Nat.add_mul] at this;omega
  obtain⟨v,hv,hrv⟩:=hc i hi j x hx
  rw[add_add] at hv
  simpa[hij,hv] using hrv
theorem run_append_nothing (t ty e:TypeId) (i:TypeInfo) (size base:Nat) (ht:E.P.underlying t=some (.slice e)) (hi:E.P.info? e=some i)
  (v:Value) (n:Nat) (xs:List Value) (hown:w.ownsRow base e size v n xs) (A:Option Addr) (c:Nat):(Builtin.append_ #[t,t] ty #[v,.slice A 0 c]).run E.P w=.ok v w:=by
 rcases hown.2 with⟨rfl,rfl⟩|⟨g,cap,cur,rfl,_,_,hnc,_⟩
 ·cases A<;>simp[Builtin.append_,run_underlying ht,sizeOf,typeInfo,hi,Builtin.lenOf,Builtin.firstCells,loadCells,loadCellsFrom]
 ·cases A<;>simp[Builtin.append_,run_underlying ht,sizeOf,typeInfo,hi,Builtin.lenOf,Builtin.firstCells,hnc,storeCells,loadCells,loadCellsFrom]
theorem oneAV_none {ob:Nat→Option Ob} {x:AV} (h:oneAV (fun _=>none) x=true):oneAV ob x=true:=by
 cases x<;>simp_all [oneAV,live]
theorem append_ok (hT:TOk E.P T) (h:SatR E st a w ρ) {k t ty:Nat} {s x:AV} {u v:Value} {obl:List Prop} {eff:Eff} (hm:appendF T st.ob k t s x=some (obl,eff)) (ho:∀p∈obl,p)
  (hs:R w (E.good w ρ) ρ s u) (hx:R w (E.good w ρ) ρ x v):
  ∃z w' ρ' k' o,(Builtin.append_ #[t,t] ty #[u,v]).run E.P w=.ok z w'∧eff.ob=some (k',o)∧SatR E {st with ob:=upd st.ob k' (some o)} a w' ρ'∧R w' (E.good w' ρ') ρ' eff.av z:=by
 unfold appendF at hm
 split at hm
 ·rename_i ti ht
  have hkd:=(hT t ti ht).kind
  split at hm
  ·rename_i e hkk
   rw[hkk] at hkd
   simp only[KindOk] at hkd
   split at hm
   ·rename_i te sz m f hte hsrc
    cases hb:Nat.beq sz te.size&&Nat.beq te.zero.length te.size&&!te.zero.isEmpty with
    |false=>simp[hb] at hm
    |true=>
     simp only[hb,cond_true] at hm
     simp only[Bool.and_eq_true] at hb
     have b1:=Nat.eq_of_beq_eq_true hb.1.1
     have b2:=Nat.eq_of_beq_eq_true hb.1.2
     have b3:0<te.size:=by
      rw[←b2]
      cases hz:te.zero with
      |nil=>simp[hz] at hb
      |cons _ _=>simp
     subst b1
     obtain⟨A,cap,rfl,hml,hf,hc⟩:=src_ok h hsrc hx
     obtain⟨inf,z0,hi,hsz,hbt,hz,hzc⟩:=(hT e te hte).info
     have hzs:z0.cells.size=te.size:=by rw[hzc];simpa using b2
     -- the append itself,onto an owned row
     have core:∀{n:Nat} {hv:Value} {xs:List Value},w.ownsRow 0 e te.size hv n xs→n+m≤9223372036854775807→(n+m)*te.bytes≤140737488355328→(∀i,i<m→(f i).all (oneAV (fun _=>none))=true)→
       ∃z w' news,(Builtin.append_ #[t,t] ty #[hv,.slice A m cap]).run E.P w=.ok z w'∧w'.ownsRow 0 e te.size z (n+m) (xs++news)∧w.grownBy w' hv.ownBlock∧(z.ownBlock=hv.ownBlock∨∀b,z.ownBlock=some b→w.heap.size≤b)∧
        ∀i j x,i<m→(f i)[j]?=some x→R w (E.good w ρ) Rho.none x (news.getD (i*te.size+j) undef):=by
      intro n hv xs hown h1 h2 h3
      rcases Nat.eq_zero_or_pos m with hm0|hm0
      ·subst hm0
       exact⟨hv,w,[],run_append_nothing t ty e inf te.size 0 hkd hi hv n xs hown A cap,by simpa using hown,World.grownBy.refl w _,.inl rfl,fun i j x hi=>absurd hi (by omega)⟩
      ·obtain⟨ad,rfl,hcc⟩:=hc hm0
       obtain⟨news,hl,hcell,hr⟩:=flat_vals hf hcc
       have hone:∀u∈news,u.oneCell'=true:=by
        intro u hu
        obtain⟨q,hq,rfl⟩:=List.getElem_of_mem hu
        rw[hl] at hq
        have hqm:q/te.size<m:=Nat.div_lt_of_lt_mul (by rw[Nat.mul_comm];exact hq)
        have hqr:q%te.size<(f (q/te.size)).length:=by rw[hf _ hqm];exact Nat.mod_lt _ b3
        have hx1:=List.getElem?_eq_getElem hqr
        have hr1:=hr _ _ _ hqm hx1
        rw[show q/te.size*te.size+q%te.size=q by rw[Nat.mul_comm];exact Nat.div_add_mod q te.size] at hr1
        have ho1:=List.all_eq_true.1 (h3 _ hqm) _ (List.mem_of_getElem? hx1)
        have hv1:=h.oneCell (oneAV_none ho1) (hr1.tr (fun _ hb=>⟨hb,rfl⟩) _ (Le.none _))
        simpa[show q<news.length by omega] using hv1
       obtain⟨z,w',hr1,hr2,hr3,_,hr5⟩:=run_append_own_at (P:=E.P) w 0 t ty e inf z0 te.size te.bytes hkd hi hz hsz hbt hzs b3 hv n xs hown ad m cap news hl hcell hone (by simp only[maxLen];omega) h2 (Nat.zero_le _)
       refine⟨z,w',news,hr1,hr2,hr3,?_,hr⟩
       rcases hr5 with h5|h5
       ·exact .inl h5
       ·exact .inr fun b hb'=>by rw[h5] at hb';injection hb' with hb';omega
     split at hm
     ·rename_i k1 s1
      split at hm
      ·rename_i e' sz' s' n f0 hob
       cases hb2:Nat.beq e e'&&Nat.beq te.size sz'&&Nat.beq s1 s' with
       |false=>simp[hb2] at hm
       |true=>
        simp only[hb2,cond_true,Option.some.injEq,Prod.mk.injEq] at hm
        obtain⟨rfl,rfl⟩:=hm
        simp only[Bool.and_eq_true] at hb2
        have q1:=Nat.eq_of_beq_eq_true hb2.1.1
        have q2:=Nat.eq_of_beq_eq_true hb2.1.2
        have q3:=Nat.eq_of_beq_eq_true hb2.2
        subst q1 q2 q3
        obtain⟨_,_,_,_,xs,ho',hk',hown,hf0,hr0⟩:=h.live_vec (by simp[live,hob]) hs
        rw[hob] at ho'
        injection ho' with ho'
        injection ho' with p1 p2 _ p4 p5
        subst p1 p2 p4 p5
        have g1:n+m≤9223372036854775807:=ho _ (by simp)
        have g2:(n+m)*te.bytes≤140737488355328:=ho _ (by simp)
        have g3:∀i,i<m→(f i).all (oneAV (fun _=>none))=true:=ho _ (by simp)
        obtain⟨z,w',news,c1,c2,c3,c4,c5⟩:=core hown g1 g2 g3
        refine⟨z,w',_,k1,_,c1,rfl,h.grow (n':=n+m) (f':=catF n f0 f) hob (fun i hi'=>?_) hk' c2 c3 (run_drawn _ c1) c4 (fun i j x hi' hx'=>?_),.vec (upd_same _ _ _)⟩
        ·unfold catF
         cases hlt:Nat.blt i n with
         |true=>exact hf0 i (Nat.lt_of_succ_le (Nat.le_of_ble_eq_true hlt))
         |false=>
          have:¬i<n:=fun hh=>by rw[show Nat.blt i n=true from Nat.ble_eq_true_of_le hh] at hlt;cases hlt
          exact hf _ (by omega)
        ·unfold catF at hx'
         cases hlt:Nat.blt i n with
         |true=>
          have hin:i<n:=Nat.lt_of_succ_le (Nat.le_of_ble_eq_true hlt)
          rw[hlt,cond_true] at hx'
          have hj:j<te.size:=by
           have:=(List.getElem?_eq_some_iff.1 hx').1
           rw[hf0 i hin] at this;exact this
          have hij:i*te.size+j<xs.length:=by
           have:(i+1)*te.size≤n*te.size:=Nat.mul_le_mul_right _ hin
           rw[Nat.add_mul] at this
           rw[hown.1];omega
          have:=hr0 i j x hin hx'
          simpa[List.getD,List.getElem?_append_left hij] using this
         |false=>
          have hin:¬i<n:=fun hh=>by rw[show Nat.blt i n=true from Nat.ble_eq_true_of_le hh] at hlt;cases hlt
          rw[hlt,cond_false] at hx'
          have hge:xs.length≤i*te.size+j:=by
           have:n*te.size≤i*te.size:=Nat.mul_le_mul_right _ (by omega)
           rw[hown.1];omega
          have:=c5 (i-n) j x (by omega) hx'
          have he:i*te.size+j-n*te.size=(i-n)*te.size+j:=by
           rw[Nat.sub_mul]
           have:n*te.size≤i*te.size:=Nat.mul_le_mul_right _ (by omega)
           omega
          simpa[List.getD,List.getElem?_append_right hge,hown.1,he] using this
      ·cases hm
     ·split at hm
      ·rename_i hob
       simp only[Option.some.injEq,Prod.mk.injEq] at hm
       obtain⟨rfl,rfl⟩:=hm
       rw[hs.c_inv]
       have g1:m≤9223372036854775807:=ho _ (by simp)
       have g2:m*te.bytes≤140737488355328:=ho _ (by simp)
       have g3:∀i,i<m→(f i).all (oneAV (fun _=>none))=true:=ho _ (by simp)
       obtain⟨z,w',news,c1,c2,c3,c4,c5⟩:=core (World.ownsRow_nil w 0 e te.size) (by omega) (by simpa using g2) g3
       have hk0:=h.no k hob
       refine⟨z,w',_,k,_,c1,rfl,h.turn (x:=.hdr 0 z) (.inl hk0) (by rw[hk0];exact c3) (run_drawn _ c1) (fun b hb'=>?_) (fun hG hl=>⟨z,news,upd_same _ _ _,by simpa using c2,hf,fun i j x hi' hx'=>(c5 i j x hi' hx').tr hG _ (Le.refl _)⟩),.vec (upd_same _ _ _)⟩
       rcases c4 with h4|h4
       ·have hb2:z.ownBlock=some b:=hb'
        rw[h4] at hb2
        simp[Value.ownBlock] at hb2
       ·exact .inr (h4 b hb')
      ·cases hm
     ·cases hm
   ·cases hm
  ·cases hm
 ·cases hm
theorem run_copy_rows (t ty e:TypeId) (g:Nat) (n n' dCap:Nat) (hnn:n≤n') (A:Addr) (sCap:Nat) (cur:Array Value) (t2:TypeId) (cs:List Value) (inf:TypeInfo)
  (hu:E.P.underlying t=some (.slice e)) (hi:E.P.info? e=some inf) (hg:w.heap[g]?=some (.cells cur t2 (0,0))) (hn:cs.length=n*inf.size)
  (hsrc:∀j v,cs[j]?=some v→w.cell? (A.add j)=some v) (hfit:cs.length≤cur.size) (h1:∀v∈cs,v.oneCell'=true):
  (Builtin.copy_ #[t,t] ty #[.slice (some ⟨g,0,none⟩) n' dCap,.slice (some A) n sCap]).run E.P w=.ok (goInt n) (w.setRow g (cs++cur.toList.drop cs.length).toArray):=by
 have hl:=run_loadCells_list (P:=E.P) w A cs hsrc
 have hst:=run_storeCells_at E.P g 0 t2 cs 0 cur w hg (by simpa using hfit) h1
 have hm:Nat.min n' n=n:=Nat.min_eq_right hnn
 have hm2:Nat.min n n'=n:=Nat.min_eq_left hnn
 simp[Builtin.copy_,run_underlying hu,Builtin.lenOf,Builtin.firstCells,sizeOf,typeInfo,hi,←hn,hl,hst,hm,hm2,hnn]
theorem run_copy_zero (t ty e:TypeId) (B A:Option Addr) (n dCap sCap:Nat) (inf:TypeInfo) (hu:E.P.underlying t=some (.slice e)) (hi:E.P.info? e=some inf):
  (Builtin.copy_ #[t,t] ty #[.slice B n dCap,.slice A 0 sCap]).run E.P w=.ok (goInt 0) w:=by
 cases A<;>cases B<;>simp[Builtin.copy_,run_underlying hu,Builtin.lenOf,Builtin.firstCells,sizeOf,typeInfo,hi,loadCells,loadCellsFrom,storeCells]
theorem copy_ok (hT:TOk E.P T) (h:SatR E st a w ρ) {t ty:Nat} {s x:AV} {u v:Value} {obl:List Prop} {eff:Eff} (hm:copyF T st.ob t s x=some (obl,eff)) (ho:∀p∈obl,p)
  (hs:R w (E.good w ρ) ρ s u) (hx:R w (E.good w ρ) ρ x v):
  ∃z w' k' o,(Builtin.copy_ #[t,t] ty #[u,v]).run E.P w=.ok z w'∧eff.ob=some (k',o)∧SatR E {st with ob:=upd st.ob k' (some o)} a w' ρ∧R w' (E.good w' ρ) ρ eff.av z:=by
 unfold copyF at hm
 split at hm<;>try (cases hm;done)
 rename_i k1 s1
 unfold copyG at hm
 split at hm
 ·rename_i ti ht
  have hkd:=(hT t ti ht).kind
  split at hm
  ·rename_i e hkk
   rw[hkk] at hkd
   simp only[KindOk] at hkd
   split at hm
   ·rename_i te sz m f hte hsrc
    split at hm
    ·rename_i e' sz' s' n f0 hob
     cases hb2:Nat.beq e e'&&Nat.beq te.size sz'&&Nat.beq s1 s'&&Nat.beq sz sz' with
     |false=>simp[hb2] at hm
     |true=>
      simp only[hb2,cond_true,Option.some.injEq,Prod.mk.injEq] at hm
      obtain⟨rfl,rfl⟩:=hm
      simp only[Bool.and_eq_true] at hb2
      have q1:=Nat.eq_of_beq_eq_true hb2.1.1.1
      have q2:=Nat.eq_of_beq_eq_true hb2.1.1.2
      have q3:=Nat.eq_of_beq_eq_true hb2.1.2
      have q4:=Nat.eq_of_beq_eq_true hb2.2
      subst q1 q3 q4
      have g1:m≤n:=ho _ (by simp)
      have g3:∀i,i<m→(f i).all (oneAV (fun _=>none))=true:=ho _ (by simp)
      obtain⟨A,cap,rfl,hml,hf,hc⟩:=src_ok h hsrc hx
      obtain⟨inf,z0,hi,hsz,hbt,hz,hzc⟩:=(hT e te hte).info
      obtain⟨_,_,_,_,xs,ho',hk',hown,hf0,hr0⟩:=h.live_vec (by simp[live,hob]) hs
      rw[hob] at ho'
      injection ho' with ho'
      injection ho' with p1 p2 _ p4 p5
      subst p1 p2 p4 p5
      have hsz2:inf.size=sz:=by rw[hsz,q2]
      rcases Nat.eq_zero_or_pos m with hm0|hm0
      ·subst hm0
       have es:{st with ob:=upd st.ob k1 (some (.vec e sz s1 n (cpF 0 f f0)))}=st:=by
        have e0:cpF 0 f f0=f0:=funext fun i=>cpF_ge (Nat.not_lt_zero i)
        have e1:upd st.ob k1 (some (.vec e sz s1 n f0))=st.ob:=by
         funext j
         by_cases hj:j=k1
         ·subst hj;rw[upd_same,hob]
         ·rw[upd_other _ _ hj]
        rw[e0,e1]
       rcases hown.2 with⟨rfl,_⟩|⟨g,cap2,cur,rfl,_,hh,hnc,hm,hsc,htake⟩
       ·exact⟨_,w,k1,_,run_copy_zero t ty e none A _ 0 cap inf hkd hi,rfl,by rw[es];exact h,.c⟩
       ·exact⟨_,w,k1,_,run_copy_zero t ty e _ A _ cap2 cap inf hkd hi,rfl,by rw[es];exact h,.c⟩
      ·obtain⟨ad,rfl,hcc⟩:=hc hm0
       obtain⟨news,hl,hcell,hr⟩:=flat_vals hf hcc
       have hone:∀u∈news,u.oneCell'=true:=by
        intro u hu
        obtain⟨q,hq,rfl⟩:=List.getElem_of_mem hu
        rw[hl] at hq
        have hpos:0<sz:=by
         rcases Nat.eq_zero_or_pos sz with h0|h0
         ·subst h0;simp at hq
         ·exact h0
        have hqm:q/sz<m:=Nat.div_lt_of_lt_mul (by rw[Nat.mul_comm];exact hq)
        have hqr:q%sz<(f (q/sz)).length:=by rw[hf _ hqm];exact Nat.mod_lt _ hpos
        have hx1:=List.getElem?_eq_getElem hqr
        have hr1:=hr _ _ _ hqm hx1
        rw[show q/sz*sz+q%sz=q by rw[Nat.mul_comm];exact Nat.div_add_mod q sz] at hr1
        have ho1:=List.all_eq_true.1 (g3 _ hqm) _ (List.mem_of_getElem? hx1)
        have hv1:=h.oneCell (oneAV_none ho1) (hr1.tr (fun _ hb=>⟨hb,rfl⟩) _ (Le.none _))
        simpa[show q<news.length by omega] using hv1
       rcases hown.2 with⟨h0,_⟩|⟨g,cap2,cur,rfl,_,hh,hnc,hm,hsc,htake⟩
       ·omega
       ·have hfit:news.length≤cur.size:=by rw[hl,hsc];exact Nat.mul_le_mul_right _ (Nat.le_trans g1 hnc)
        refine⟨_,_,k1,_,run_copy_rows t ty e g m n cap2 g1 ad cap cur _ news inf hkd hi hh (by rw[hl,hsz2]) hcell hfit hone,rfl,h.writeRow hob (f':=cpF m f f0) (fun i hi'=>by
         by_cases hc:i<m
         ·rw[cpF_lt hc];exact hf i hc
         ·rw[cpF_ge hc];exact hf0 i hi') (fun g1 cap1 cur1 hg1 hh1 _ hsc1 hold=>?_) (by omega),.c⟩
        rw[hk'] at hg1
        injection hg1 with hg1
        injection hg1 with _ hg1
        injection hg1 with hg1 _ hg2
        injection hg1 with hg1
        injection hg1 with hg1
        subst hg1 hg2
        rw[hh] at hh1
        injection hh1 with hh1
        injection hh1 with hh1
        subst hh1
        refine⟨_,rfl,by simp;omega,fun i j x hi' hx'=>?_⟩
        by_cases hc:i<m
        rotate_left
        ·rw[cpF_ge hc] at hx'
         have:=hold i j x hi' hx'
         have hge:news.length≤i*sz+j:=by
          have:m*sz≤i*sz:=Nat.mul_le_mul_right _ (by omega)
          rw[hl];omega
         simpa[List.getD,List.getElem?_append_right hge,Nat.add_sub_cancel' hge,Array.getD_eq_getD_getElem?] using this
        rw[cpF_lt hc] at hx'
        have hi':=hc
        have hj:j<sz:=by
         have:=(List.getElem?_eq_some_iff.1 hx').1
         rw[hf i hi'] at this;exact this
        have hij:i*sz+j<news.length:=by
         have:(i+1)*sz≤m*sz:=Nat.mul_le_mul_right _ hi'
         rw[Nat.add_mul] at this
         rw[hl];omega
        have:=hr i j x hi' hx'
        simpa[List.getD,List.getElem?_append_left hij] using this
    ·cases hm
   ·cases hm
  ·cases hm
 ·cases hm
end
end Go.Eng
end
