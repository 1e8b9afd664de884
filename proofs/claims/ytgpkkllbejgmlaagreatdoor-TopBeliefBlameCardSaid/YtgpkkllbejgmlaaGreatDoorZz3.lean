import Derived.Test.YtgpkkllbejgmlaaGreatDoorZz2
set_option linter.unusedSimpArgs false
set_option linter.unusedVariables false
section
namespace Go.Eng
def live (ob:Nat→Option Ob):AV→Bool
 |.vec k s=>match ob k with
  |some (.vec _ _ s' _ _)=>Nat.beq s s'
  |_=>false
 |.vptr k s _ _ _=>match ob k with
  |some (.vec _ _ s' _ _)=>Nat.beq s s'
  |_=>false
 |_=>true
def avCells (ob:Nat→Option Ob):AV→Option (List AV)
 |.agg l=>some l
 |.c (.agg _)=>none
 |.c (.tuple _)=>none
 |.tup _=>none
 |.gd _ _=>none
 |.junk=>none
 |x=>bif live ob x then some [x] else none
def oneAV (ob:Nat→Option Ob):AV→Bool
 |.c v=>v.oneCell'
 |.ptr _ _=>true
 |.mp _=>true
 |.rptr _=>true
 |.rs _ _ _=>true
 |.fn _ _ _=>true
 |.vec k s=>live ob (.vec k s)
 |.vptr k s sz i off=>live ob (.vptr k s sz i off)
 |_=>false
section
variable {E:Env} {st:ST} {a:Act} {w:World} {ρ:Rho}
theorem SatR.live_vec (h:SatR E st a w ρ) {k s:Nat} {v:Value} (hl:live st.ob (.vec k s)=true) (hr:R w (E.good w ρ) ρ (.vec k s) v):
  ∃e sz n f xs,st.ob k=some (.vec e sz s n f)∧ρ k=some (.hdr s v)∧w.ownsRow 0 e sz v n xs∧(∀i,i<n→(f i).length=sz)∧∀i j x,i<n→(f i)[j]?=some x→R w (E.good w ρ) Rho.none x (xs.getD (i*sz+j) undef):=by
 simp only[live] at hl
 split at hl
 ·rename_i e sz s' n f ho
  have hs:=Nat.eq_of_beq_eq_true hl
  subst hs
  obtain⟨hv,xs,hk,hown,hf,hx⟩:=h.ob k _ ho
  have:=hr.vec_inv hk
  subst this
  exact⟨e,sz,n,f,xs,ho,hk,hown,hf,hx⟩
 ·cases hl
theorem SatR.live_vptr (h:SatR E st a w ρ) {k s sz i off:Nat} {v:Value} (hl:live st.ob (.vptr k s sz i off)=true) (hr:R w (E.good w ρ) ρ (.vptr k s sz i off) v):
  ∃e sz' n f g cap cur,st.ob k=some (.vec e sz' s n f)∧ρ k=some (.hdr s (.slice (some ⟨g,0,none⟩) n cap))∧v=.pointer (some ⟨g,i*sz+off,none⟩)∧i<n∧n≤cap∧cap≤maxLen∧
   w.heap[g]?=some (.cells cur e (0,0))∧cur.size=cap*sz'∧(∀i,i<n→(f i).length=sz')∧∀i j x,i<n→(f i)[j]?=some x→R w (E.good w ρ) Rho.none x (cur.getD (i*sz'+j) undef):=by
 simp only[live] at hl
 split at hl
 ·rename_i e sz' s' n f ho
  have hs:=Nat.eq_of_beq_eq_true hl
  subst hs
  obtain⟨hv,xs,hk,hown,hf,hx⟩:=h.ob k _ ho
  obtain⟨g,n',cap,rfl,hi,rfl⟩:=hr.vptr_inv hk
  rcases hown with⟨hxl,⟨h1,_⟩|⟨g',cap',cur,h1,_,hh,hnc,hm,hs,htake⟩⟩
  ·simp at h1
  ·injection h1 with h1 h2 h3
   injection h1 with h1
   injection h1 with h1
   subst h1 h2 h3
   refine⟨e,sz',n',f,g,cap,cur,ho,hk,rfl,hi,hnc,hm,hh,hs,hf,fun i j x hi hx'=>?_⟩
   have hj:j<sz':=by
    have:=(List.getElem?_eq_some_iff.1 hx').1
    rw[hf i hi] at this;exact this
   have hij:i*sz'+j<n'*sz':=by
    have:(i+1)*sz'≤n'*sz':=Nat.mul_le_mul_right sz' hi
    rw[Nat.add_mul] at this;omega
   have:=hx i j x hi hx'
   rw[←htake] at this
   simpa[List.getD,List.getElem?_take,hij] using this
 ·cases hl
theorem SatR.oneCell (h:SatR E st a w ρ) {x:AV} {v:Value} (ho:oneAV st.ob x=true) (hr:R w (E.good w ρ) ρ x v):v.oneCell'=true:=by
 cases x with
 |c u=>rw[hr.c_inv];exact ho
 |ptr k off=>obtain⟨_,_,rfl⟩:=hr.ptr_inv;rfl
 |mp k=>cases hr;rfl
 |rptr l=>obtain⟨_,rfl,_⟩:=hr.rptr_inv;rfl
 |rs sz n f=>obtain⟨_,_,rfl,_⟩:=hr.rs_inv;rfl
 |fn f l l'=>cases hr;rfl
 |vec k s=>
  obtain⟨_,_,_,_,_,_,_,hown,_⟩:=h.live_vec ho hr
  rcases hown.2 with⟨rfl,_⟩|⟨_,_,_,rfl,_⟩<;>rfl
 |vptr k s sz i off=>obtain⟨_,_,_,_,_,_,_,_,_,rfl,_⟩:=h.live_vptr ho hr;rfl
 |junk=>simp[oneAV] at ho
 |agg l=>simp[oneAV] at ho
 |tup l=>simp[oneAV] at ho
 |gd g a=>simp[oneAV] at ho
theorem Value.cells_one {v:Value} (h:∀cs,v≠.agg cs):v.cells=#[v]:=by
 cases v<;>first|rfl|exact absurd rfl (h _)
theorem SatR.cells (h:SatR E st a w ρ) {x:AV} {v:Value} {l:List AV} (hl:avCells st.ob x=some l) (hr:R w (E.good w ρ) ρ x v):
  v.cells.size=l.length∧∀i y,l[i]?=some y→R w (E.good w ρ) ρ y (v.cells.getD i undef):=by
 have one:∀{x:AV} {l:List AV} {v:Value},(∀cs,v≠.agg cs)→some [x]=some l→R w (E.good w ρ) ρ x v→v.cells.size=l.length∧∀i y,l[i]?=some y→R w (E.good w ρ) ρ y (v.cells.getD i undef):=by
  intro x l v hv h1 hr
  injection h1 with h1
  subst h1
  rw[Value.cells_one hv]
  refine⟨rfl,fun i y hy=>?_⟩
  cases i with
  |zero=>simp at hy;subst hy;exact hr
  |succ i=>simp at hy
 cases x with
 |agg l'=>
  simp only[avCells,Option.some.injEq] at hl
  subst hl
  obtain⟨cs,rfl,h1,h2⟩:=hr.agg_inv
  exact⟨h1,h2⟩
 |c u=>
  rw[hr.c_inv]
  cases u<;>simp only[avCells,live,cond_true] at hl<;>first|exact one (fun _ e=>by cases e) hl .c|(cases hl;done)
 |ptr k off=>
  obtain⟨_,_,rfl⟩:=hr.ptr_inv
  exact one (fun _ e=>by cases e) (by simpa[avCells,live] using hl) hr
 |mp k=>
  have hv:∀cs,v≠.agg cs:=by cases hr;exact fun _ e=>by cases e
  exact one hv (by simpa[avCells,live] using hl) hr
 |rptr l'=>
  obtain⟨_,rfl,_⟩:=hr.rptr_inv
  exact one (fun _ e=>by cases e) (by simpa[avCells,live] using hl) hr
 |rs sz n f=>
  obtain⟨_,_,rfl,_⟩:=hr.rs_inv
  exact one (fun _ e=>by cases e) (by simpa[avCells,live] using hl) hr
 |fn f l1 l2=>
  have hv:∀cs,v≠.agg cs:=by cases hr;exact fun _ e=>by cases e
  exact one hv (by simpa[avCells,live] using hl) hr
 |vec k s=>
  cases hb:live st.ob (.vec k s) with
  |false=>simp[avCells,hb] at hl
  |true=>
   obtain⟨_,_,_,_,_,_,_,hown,_⟩:=h.live_vec hb hr
   refine one (fun cs e=>?_) (by simpa[avCells,hb] using hl) hr
   rcases hown.2 with⟨h1,_⟩|⟨_,_,_,h1,_⟩<;>rw[h1] at e<;>cases e
 |vptr k s sz i off=>
  cases hb:live st.ob (.vptr k s sz i off) with
  |false=>simp[avCells,hb] at hl
  |true=>
   obtain⟨_,_,_,_,_,_,_,_,_,h1,_⟩:=h.live_vptr hb hr
   exact one (fun cs e=>by rw[h1] at e;cases e) (by simpa[avCells,hb] using hl) hr
 |junk=>simp[avCells] at hl
 |tup l'=>simp[avCells] at hl
 |gd g a'=>simp[avCells] at hl
theorem SatR.objCells (h:SatR E st a w ρ) {k:Nat} {t:TypeId} {cs:List AV} {g:Nat} (ho:st.ob k=some (.cells t cs)) (hk:ρ k=some (.blk g)):Cells w (E.good w ρ) ρ ⟨g,0,none⟩ cs:=by
 obtain⟨g',arr,hk',hh,hs,hr⟩:=h.ob k _ ho
 rw[hk] at hk'
 injection hk' with hk'
 injection hk' with hk'
 subst hk'
 intro i x hx
 have hi:i<arr.size:=by rw[hs];exact(List.getElem?_eq_some_iff.1 hx).1
 refine⟨arr.getD i undef,?_,hr i x hx⟩
 rw[Addr.add_lit,Nat.zero_add,cell_of_row w g i arr t (0,0) hh]
 simp[hi]
end
def loadF (T:TE) (ob:Nat→Option Ob) (t:TypeId):AV→Option (List Prop×AV)
 |.ptr k off=>match T.find t,ob k with
  |some ti,some (.cells _ cs)=>match cellsAt ti cs off with
   |some x=>some ([],x)
   |none=>none
  |_,_=>none
 |.rptr l=>match T.find t with
  |some ti=>match cellsAt ti l 0 with
   |some x=>some ([],x)
   |none=>none
  |none=>none
 |.vptr k s sz i off=>match T.find t,ob k with
  |some ti,some (.vec _ sz' s' n f)=>bif Nat.beq s s'&&Nat.beq sz sz' then
    (match ti.kind with
     |.array m _=>bif Nat.beq i 0&&Nat.beq off 0&&Nat.beq m n then(match cellsAt ti ((List.range n).flatMap f) 0 with
       |some x=>some ([],x)
       |none=>none) else none
     |_=>match cellsAt ti (f i) off with
       |some x=>some ([],x)
       |none=>none)
    else none
  |_,_=>none
 |_=>none
theorem flat_at {n sz:Nat} {f:Nat→List AV} (hf:∀i,i<n→(f i).length=sz) {j:Nat} {x:AV} (h:((List.range n).flatMap f)[j]?=some x):∃i k,i<n∧j=i*sz+k∧(f i)[k]?=some x:=by
 induction n generalizing j with
 |zero=>simp at h
 |succ n ih=>
  have hlen:((List.range n).flatMap f).length=n*sz:=by
   clear h ih
   induction n with
   |zero=>simp
   |succ n ih=>rw[List.range_succ,List.flatMap_append];simp[ih fun i hi=>hf i (by omega),hf n (by omega),Nat.add_mul]
  rw[List.range_succ,List.flatMap_append,List.getElem?_append] at h
  split at h
  ·obtain⟨i,k,h1,h2,h3⟩:=ih (fun i hi=>hf i (by omega)) h
   exact⟨i,k,by omega,h2,h3⟩
  ·rw[hlen] at h
   exact⟨n,j-n*sz,by omega,by omega,by simpa using h⟩
section
variable {E:Env} {st:ST} {a:Act} {w:World} {ρ:Rho} {T:TE}
theorem loadF_ok (hT:TOk E.P T) (h:SatR E st a w ρ) {t:TypeId} {x r:AV} {v:Value} {obl:List Prop} (hl:loadF T st.ob t x=some (obl,r)) (hr:R w (E.good w ρ) ρ x v):
  ∃z,(Instr.loadAt t v).run E.P w=.ok z w∧R w (E.good w ρ) ρ r z:=by
 have fin:∀{ad:Addr} {cs:List AV} {off:Nat} {ti:TI} {ρ':Rho},T.find t=some ti→Cells w (E.good w ρ) ρ' ad cs→cellsAt ti cs off=some r→Le ρ' ρ→v=.pointer (some (ad.add off))→
   ∃z,(Instr.loadAt t v).run E.P w=.ok z w∧R w (E.good w ρ) ρ r z:=by
  intro ad cs off ti ρ' ht hc hx hle hv
  obtain⟨z,h1,h2⟩:=run_loadVar (P:=E.P) (hT t ti ht) hc hx
  exact⟨z,by subst hv;simp[Instr.loadAt,Instr.sureAddr,h1],h2.tr (fun _ hb=>⟨hb,rfl⟩) _ hle⟩
 unfold loadF at hl
 split at hl
 ·rename_i k off
  split at hl
  ·rename_i ti _ cs ht ho
   split at hl
   ·rename_i y hy
    simp only[Option.some.injEq,Prod.mk.injEq] at hl
    obtain⟨_,rfl⟩:=hl
    obtain⟨g,hk,rfl⟩:=hr.ptr_inv
    exact fin ht (h.objCells ho hk) hy (Le.refl _) (by rw[Addr.add_lit,Nat.zero_add])
   ·cases hl
  ·cases hl
 ·rename_i l
  split at hl
  ·rename_i ti ht
   split at hl
   ·rename_i y hy
    simp only[Option.some.injEq,Prod.mk.injEq] at hl
    obtain⟨_,rfl⟩:=hl
    obtain⟨ad,rfl,_,hc⟩:=hr.rptr_inv
    exact fin ht hc hy (Le.none _) (by rw[Addr.add_zero'])
   ·cases hl
  ·cases hl
 ·rename_i k s sz i off
  split at hl
  ·rename_i ti e sz' s' n f ht ho
   cases hb:Nat.beq s s'&&Nat.beq sz sz' with
   |false=>rw[hb] at hl;simp at hl
   |true=>
    rw[hb] at hl
    simp only[cond_true] at hl
    simp only[Bool.and_eq_true] at hb
    have hs:=Nat.eq_of_beq_eq_true hb.1
    have hsz:=Nat.eq_of_beq_eq_true hb.2
    subst hs hsz
    obtain⟨e',sz'',n',f',g,cap,cur,ho',hk,rfl,hi,hnc,_,hh,hcs,hf,hx⟩:=h.live_vptr (by simp[live,ho]) hr
    rw[ho] at ho'
    injection ho' with ho'
    injection ho' with _ h2 _ h4 h5
    subst h2 h4 h5
    have row:∀i,i<n→Cells w (E.good w ρ) Rho.none ⟨g,i*sz,none⟩ (f i):=by
     intro i hi j x hx'
     have hj:j<sz:=by
      have:=(List.getElem?_eq_some_iff.1 hx').1
      rw[hf i hi] at this;exact this
     have hij:i*sz+j<cur.size:=by
      have h1:(i+1)*sz≤n*sz:=Nat.mul_le_mul_right sz hi
      have h2:=Nat.mul_le_mul_right sz hnc
      rw[Nat.add_mul] at h1;omega
     refine⟨cur.getD (i*sz+j) undef,?_,hx i j x hi hx'⟩
     rw[Addr.add_lit,cell_of_row w g _ cur e' (0,0) hh]
     simp[hij]
    split at hl
    ·rename_i m e2 _
     cases hb2:Nat.beq i 0&&Nat.beq off 0&&Nat.beq m n with
     |false=>rw[hb2] at hl;simp at hl
     |true=>
      rw[hb2] at hl
      simp only[cond_true] at hl
      simp only[Bool.and_eq_true] at hb2
      have h0:=Nat.eq_of_beq_eq_true hb2.1.1
      have h1:=Nat.eq_of_beq_eq_true hb2.1.2
      subst h0 h1
      split at hl
      ·rename_i y hy
       simp only[Option.some.injEq,Prod.mk.injEq] at hl
       obtain⟨_,rfl⟩:=hl
       refine fin (ad:=⟨g,0,none⟩) ht (fun j x hx'=>?_) hy (Le.none _) (by rw[Addr.add_zero'];simp)
       obtain⟨i,k,h1,rfl,h3⟩:=flat_at hf hx'
       obtain⟨u,h4,h5⟩:=row i h1 k x h3
       refine⟨u,?_,h5⟩
       rw[Addr.add_lit] at h4 ⊢
       rw[Nat.zero_add];exact h4
      ·cases hl
    ·split at hl
     ·rename_i y hy
      simp only[Option.some.injEq,Prod.mk.injEq] at hl
      obtain⟨_,rfl⟩:=hl
      exact fin ht (row i hi) hy (Le.none _) (by rw[Addr.add_lit])
     ·cases hl
  ·cases hl
 ·cases hl
end
def fieldF (T:TE) (ob:Nat→Option Ob) (s:TypeId) (f:Nat):AV→Option (List Prop×AV)
 |x=>match T.find s with
  |some ti=>match ti.kind with
   |.struct pl _=>match pl[f]? with
    |some (o,sz)=>bif Nat.beq sz 0 then none else(match x with
     |.ptr k off=>some ([],.ptr k (off+o))
     |.rptr l=>some ([],.rptr (l.drop o))
     |.vptr k s sz i off=>bif live ob (.vptr k s sz i off) then some ([],.vptr k s sz i (off+o)) else none
     |_=>none)
    |none=>none
   |_=>none
  |none=>none
theorem mapM_get {α β:Type} {f:α→Option β}:∀{l:List α} {r:List β},l.mapM f=some r→∀(i:Nat) (b:β),r[i]?=some b→∃x,l[i]?=some x∧f x=some b
 |[],r,h,i,b,hb=>by simp at h;subst h;simp at hb
 |x::l,r,h,i,b,hb=>by
  simp only[List.mapM_cons,Option.bind_eq_bind,Option.pure_def] at h
  cases hx:f x with
  |none=>simp[hx] at h
  |some y=>
   cases hl:l.mapM f with
   |none=>simp[hx,hl] at h
   |some ys=>
    simp[hx,hl] at h
    subst h
    cases i with
    |zero=>simp at hb;subst hb;exact⟨x,by simp,hx⟩
    |succ i=>simp at hb ⊢;exact mapM_get hl i b hb
section
variable {E:Env} {st:ST} {a:Act} {w:World} {ρ:Rho} {T:TE}
theorem TIOk.field {P:Program} {t:Nat} {ti:TI} (h:TIOk P t ti) {pl:List (Nat×Nat)} {ty:List Nat} (hk:ti.kind=.struct pl ty) {f o sz:Nat} (hf:pl[f]?=some (o,sz)):
  ∃fs:Array Field,∃fd inf,P.underlying t=some (.struct fs)∧fs[f]?=some fd∧fd.offset=o∧P.info? fd.type=some inf∧inf.size=sz∧ty[f]?=some fd.type:=by
 have h1:=h.kind
 rw[hk] at h1
 obtain⟨fs,h2,h3,h4⟩:=h1
 obtain⟨fd,h5,h6⟩:=mapM_get h3 f _ hf
 cases hi:P.info? fd.type with
 |none=>simp[hi] at h6
 |some inf=>
  simp[hi] at h6
  exact⟨fs,fd,inf,h2,by simpa using h5,h6.1,hi,h6.2,by rw[←h4];simp[List.getElem?_map,h5]⟩
theorem fieldF_ok (hT:TOk E.P T) (h:SatR E st a w ρ) {s:TypeId} {f:Nat} {x r:AV} {v:Value} {obl:List Prop} (hl:fieldF T st.ob s f x=some (obl,r)) (hr:R w (E.good w ρ) ρ x v):
  ∃z,(Instr.fieldAt s v f).run E.P w=.ok z w∧R w (E.good w ρ) ρ r z:=by
 unfold fieldF at hl
 split at hl
 ·rename_i ti ht
  split at hl
  ·rename_i pl ty hk
   split at hl
   ·rename_i o sz hf
    obtain⟨fs,fd,inf,h1,h2,h3,h4,h5,_⟩:=(hT s ti ht).field hk hf
    cases hz:Nat.beq sz 0 with
    |true=>rw[hz] at hl;simp at hl
    |false=>
     rw[hz] at hl
     simp only[cond_false] at hl
     have hne:sz≠0:=fun e=>by subst e;simp at hz
     have key:∀ad,(Instr.fieldAt s (.pointer (some ad)) f).run E.P w=.ok (.pointer (some (ad.add o))) w:=by
      intro ad
      have hso:(sizeOf fd.type).run E.P w=.ok sz w:=by simp[sizeOf,typeInfo,h4,h5]
      have hfp:(fieldPlace ad fd).run E.P w=.ok (ad.add o) w:=by simp[fieldPlace,hso,hne,h3]
      simp[Instr.fieldAt,run_underlying h1,h2,Instr.sureAddr,hfp]
     split at hl
     ·simp only[Option.some.injEq,Prod.mk.injEq] at hl
      obtain⟨_,rfl⟩:=hl
      obtain⟨g,hk',rfl⟩:=hr.ptr_inv
      exact⟨_,key _,by rw[Addr.add_lit];exact .ptr hk'⟩
     ·simp only[Option.some.injEq,Prod.mk.injEq] at hl
      obtain⟨_,rfl⟩:=hl
      obtain⟨ad,rfl,hg,hc⟩:=hr.rptr_inv
      exact⟨_,key _,R.rptr_mk (by rw[block_add];exact hg) (hc.drop o)⟩
     ·rename_i k s' sz' i off
      cases hb:live st.ob (.vptr k s' sz' i off) with
      |false=>simp[hb] at hl
      |true=>
       simp only[hb,cond_true,Option.some.injEq,Prod.mk.injEq] at hl
       obtain⟨_,rfl⟩:=hl
       obtain⟨_,_,_,_,g,cap,cur,_,hk',rfl,hi,_⟩:=h.live_vptr hb hr
       exact⟨_,key _,by rw[Addr.add_lit,Nat.add_assoc];exact .vptr hk' hi⟩
     ·cases hl
   ·cases hl
  ·cases hl
 ·cases hl
theorem asIntOf_int {P:Program} {w:World} {k:IntKind} {n:Int}:(asIntOf (.int k n)).run P w=.ok (k,n) w:=rfl
def intsOf (k:IntKind):List AV→Option (List Int)
 |[]=>some []
 |.c (.int k' n)::l=>bif decide (k'=k) then(match intsOf k l with
  |some ns=>some (n::ns)
  |none=>none) else none
 |_=>none
def intsKind:List AV→IntKind
 |.c (.int k _)::_=>k
 |_=>.i64
theorem intsOf_at {k:IntKind}:∀{l:List AV} {ns:List Int},intsOf k l=some ns→l.length=ns.length∧∀i,i<l.length→l[i]?=some (.c (.int k (ns.getD i 0)))
 |[],ns,h=>by injection h with h;subst h;exact⟨rfl,fun i hi=>absurd hi (Nat.not_lt_zero _)⟩
 |a::l,ns,h=>by
  unfold intsOf at h
  split at h
  ·cases ‹a::l=[]›
  ·rename_i k' n l' he
   injection he with h1 h2
   subst h1 h2
   cases hk:decide (k'=k) with
   |false=>simp[hk] at h
   |true=>
    simp only[hk,cond_true] at h
    have:=of_decide_eq_true hk
    subst this
    split at h
    ·rename_i ns' hns
     injection h with h
     subst h
     obtain⟨h1,h2⟩:=intsOf_at hns
     refine⟨by simp[h1],fun i hi=>?_⟩
     cases i with
     |zero=>rfl
     |succ i=>simpa using h2 i (by simpa using hi)
    ·cases h
  ·cases h
def indexF (T:TE) (ob:Nat→Option Ob) (t:TypeId):AV→AV→Option (List Prop×AV)
 |x,.c (.int _ i)=>match T.find t with
  |some ti=>match ti.kind with
   |.slice e=>match T.find e with
    |some te=>(match x with
     |.rs sz n f=>bif Nat.beq sz te.size then some ([0≤i∧i<(n:Int)],.rptr (f i.toNat)) else none
     |.vec k s=>match ob k with
      |some (.vec _ sz s' n _)=>bif Nat.beq s s'&&Nat.beq sz te.size then some ([0≤i∧i<(n:Int)],.vptr k s sz i.toNat 0) else none
      |_=>none
     |_=>none)
    |none=>none
   |.array m e=>match T.find e with
    |some te=>(match x with
     |.vptr k s sz j off=>match ob k with
      |some (.vec _ sz' s' n _)=>bif Nat.beq s s'&&Nat.beq sz te.size&&Nat.beq sz sz'&&Nat.beq off 0&&Nat.beq m n&&Nat.beq j 0 then some ([0≤i∧i<(n:Int)],.vptr k s sz i.toNat 0)
        else bif Nat.beq s s'&&Nat.beq sz te.size&&Nat.beq sz sz'&&Nat.beq off 0 then some ([0≤i∧i<(m:Int)∧(j:Int)+i<(n:Int)],.vptr k s sz (j+i.toNat) 0)
        else(match te.kind with
         |.array m2 _=>bif Nat.beq s s'&&Nat.beq (m2*sz) te.size&&Nat.beq sz sz'&&Nat.beq off 0 then some ([0≤i∧i<(m:Int)∧(j:Int)+i*m2<(n:Int)],.vptr k s sz (j+i.toNat*m2) 0) else none
         |_=>none)
      |_=>none
     |.rptr l=>bif Nat.beq te.size 1&&Nat.beq m l.length then(match intsOf (intsKind l) l with
       |some ns=>some ([0≤i∧i<(m:Int)],.rptr [.c (.int (intsKind l) (ns.getD i.toNat 0))])
       |none=>none) else none
     |_=>none)
    |none=>none
   |_=>none
  |none=>none
 |_,_=>none
theorem indexF_ok (hT:TOk E.P T) (h:SatR E st a w ρ) {t:TypeId} {x y r:AV} {u v:Value} {obl:List Prop} (hl:indexF T st.ob t x y=some (obl,r)) (ho:∀p∈obl,p)
  (hx:R w (E.good w ρ) ρ x u) (hy:R w (E.good w ρ) ρ y v):∃z,(Instr.indexAt t u v).run E.P w=.ok z w∧R w (E.good w ρ) ρ r z:=by
 unfold indexF at hl
 split at hl
 ·rename_i x' ik i
  rw[hy.c_inv]
  split at hl
  ·rename_i ti ht
   have hkd:=(hT t ti ht).kind
   split at hl
   ·rename_i e hk
    rw[hk] at hkd
    simp only[KindOk] at hkd
    split at hl
    ·rename_i te hte
     have hso:=(hT e te hte).run_sizeOf w
     split at hl
     ·rename_i sz n f
      cases hb:Nat.beq sz te.size with
      |false=>simp[hb] at hl
      |true=>
       simp only[hb,cond_true,Option.some.injEq,Prod.mk.injEq] at hl
       obtain⟨rfl,rfl⟩:=hl
       have hsz:=Nat.eq_of_beq_eq_true hb
       subst hsz
       obtain⟨h0,h1⟩:0≤i∧i<(n:Int):=ho _ (by simp)
       obtain⟨A,cap,rfl,_,_,hf,hc⟩:=hx.rs_inv
       obtain⟨ad,rfl,hg,hcc⟩:=hc (by omega)
       refine⟨.pointer (some (ad.add (i.toNat*te.size))),?_,R.rptr_mk (by rw[block_add];exact hg) (hcc _ (by omega))⟩
       simp[Instr.indexAt,asIntOf_int,run_underlying hkd,h0,h1,hso]
     ·rename_i k s
      split at hl
      ·rename_i e' sz s' n f hob
       cases hb:Nat.beq s s'&&Nat.beq sz te.size with
       |false=>simp[hb] at hl
       |true=>
        simp only[hb,cond_true,Option.some.injEq,Prod.mk.injEq] at hl
        obtain⟨rfl,rfl⟩:=hl
        simp only[Bool.and_eq_true] at hb
        have hs:=Nat.eq_of_beq_eq_true hb.1
        have hsz:=Nat.eq_of_beq_eq_true hb.2
        subst hs hsz
        obtain⟨h0,h1⟩:0≤i∧i<(n:Int):=ho _ (by simp)
        obtain⟨_,_,_,_,xs,ho',hk',hown,_⟩:=h.live_vec (by simp[live,hob]) hx
        rw[hob] at ho'
        injection ho' with ho'
        injection ho' with h2 h3 _ h4 h5
        subst h2 h3 h4 h5
        rcases hown.2 with⟨rfl,hn⟩|⟨g,cap,cur,rfl,_⟩
        ·omega
        ·refine⟨.pointer (some ⟨g,i.toNat*te.size,none⟩),?_,.vptr hk' (by omega)⟩
         simp[Instr.indexAt,asIntOf_int,run_underlying hkd,h0,h1,hso,Addr.add_lit]
      ·cases hl
     ·cases hl
    ·cases hl
   ·rename_i m e hk
    rw[hk] at hkd
    simp only[KindOk] at hkd
    split at hl
    ·rename_i te hte
     have hso:=(hT e te hte).run_sizeOf w
     split at hl
     ·rename_i k s sz j off
      split at hl
      ·rename_i e' sz' s' n f hob
       cases hb:Nat.beq s s'&&Nat.beq sz te.size&&Nat.beq sz sz'&&Nat.beq off 0&&Nat.beq m n&&Nat.beq j 0 with
       |true=>
        simp only[hb,cond_true,Option.some.injEq,Prod.mk.injEq] at hl
        obtain⟨rfl,rfl⟩:=hl
        simp only[Bool.and_eq_true] at hb
        obtain⟨⟨⟨⟨⟨b1,b2⟩,b3⟩,b5⟩,b6⟩,b4⟩:=hb
        have e1:=Nat.eq_of_beq_eq_true b1
        have e3:=Nat.eq_of_beq_eq_true b3
        subst e1 e3
        obtain⟨_,_,_,_,g,cap,cur,ho',hk',rfl,_⟩:=h.live_vptr (by simp[live,hob]) hx
        rw[hob] at ho'
        injection ho' with ho'
        injection ho' with h2 h3 _ h4 h5
        subst h2 h3 h4 h5
        have e2:=Nat.eq_of_beq_eq_true b2
        have e4:=Nat.eq_of_beq_eq_true b4
        have e5:=Nat.eq_of_beq_eq_true b5
        have e6:=Nat.eq_of_beq_eq_true b6
        obtain⟨h0,h1⟩:0≤i∧i<(n:Int):=ho _ (by simp)
        subst e4 e5 e6
        refine⟨.pointer (some ⟨g,i.toNat*sz,none⟩),?_,.vptr hk' (by omega)⟩
        simp[Instr.indexAt,asIntOf_int,run_underlying hkd,h0,h1,hso,Addr.add_lit,Instr.sureAddr,e2]
       |false=>
        rw[hb] at hl
        simp only[cond_false] at hl
        clear hb
        cases hb:Nat.beq s s'&&Nat.beq sz te.size&&Nat.beq sz sz'&&Nat.beq off 0 with
        |true=>
         simp only[hb,cond_true,Option.some.injEq,Prod.mk.injEq] at hl
         obtain⟨rfl,rfl⟩:=hl
         simp only[Bool.and_eq_true] at hb
         obtain⟨⟨⟨b1,b2⟩,b3⟩,b5⟩:=hb
         have e1:=Nat.eq_of_beq_eq_true b1
         have e3:=Nat.eq_of_beq_eq_true b3
         subst e1 e3
         obtain⟨_,_,_,_,g,cap,cur,ho',hk',rfl,_⟩:=h.live_vptr (by simp[live,hob]) hx
         rw[hob] at ho'
         injection ho' with ho'
         injection ho' with h2 h3 _ h4 h5
         subst h2 h3 h4 h5
         have e2:=Nat.eq_of_beq_eq_true b2
         have e5:=Nat.eq_of_beq_eq_true b5
         obtain⟨h0,h1,h6⟩:0≤i∧i<(m:Int)∧(j:Int)+i<(n:Int):=ho _ (by simp)
         subst e5
         refine⟨.pointer (some ⟨g,(j+i.toNat)*sz,none⟩),?_,.vptr hk' (by omega)⟩
         simp[Instr.indexAt,asIntOf_int,run_underlying hkd,h0,h1,hso,Addr.add_lit,Instr.sureAddr,e2,Nat.add_mul]
        |false=>
         rw[hb] at hl
         simp only[cond_false] at hl
         clear hb
         split at hl
         ·rename_i m2 e2 hk2
          cases hb:Nat.beq s s'&&Nat.beq (m2*sz) te.size&&Nat.beq sz sz'&&Nat.beq off 0 with
          |false=>simp[hb] at hl
          |true=>
           simp only[hb,cond_true,Option.some.injEq,Prod.mk.injEq] at hl
           obtain⟨rfl,rfl⟩:=hl
           simp only[Bool.and_eq_true] at hb
           obtain⟨⟨⟨b1,b2⟩,b3⟩,b5⟩:=hb
           have e1:=Nat.eq_of_beq_eq_true b1
           have e3:=Nat.eq_of_beq_eq_true b3
           subst e1 e3
           obtain⟨_,_,_,_,g,cap,cur,ho',hk',rfl,_⟩:=h.live_vptr (by simp[live,hob]) hx
           rw[hob] at ho'
           injection ho' with ho'
           injection ho' with h2 h3 _ h4 h5
           subst h2 h3 h4 h5
           have e2:=Nat.eq_of_beq_eq_true b2
           have e5:=Nat.eq_of_beq_eq_true b5
           obtain⟨h0,h1,h6⟩:0≤i∧i<(m:Int)∧(j:Int)+i*m2<(n:Int):=ho _ (by simp)
           subst e5
           have hcast:((i.toNat*m2:Nat):Int)=i*m2:=by rw[Int.natCast_mul,Int.toNat_of_nonneg h0]
           refine⟨.pointer (some ⟨g,(j+i.toNat*m2)*sz,none⟩),?_,.vptr hk' (by omega)⟩
           simp[Instr.indexAt,asIntOf_int,run_underlying hkd,h0,h1,hso,Addr.add_lit,Instr.sureAddr,←e2,Nat.add_mul,Nat.mul_assoc]
         ·cases hl
      ·cases hl
     ·rename_i l
      cases hb:Nat.beq te.size 1&&Nat.beq m l.length with
      |false=>simp[hb] at hl
      |true=>
       simp only[hb,cond_true] at hl
       simp only[Bool.and_eq_true] at hb
       have e1:=Nat.eq_of_beq_eq_true hb.1
       have e2:=Nat.eq_of_beq_eq_true hb.2
       split at hl
       ·rename_i ns hns
        simp only[Option.some.injEq,Prod.mk.injEq] at hl
        obtain⟨rfl,rfl⟩:=hl
        obtain⟨h0,h1⟩:0≤i∧i<(m:Int):=ho _ (by simp)
        obtain⟨ad,rfl,hg,hc⟩:=hx.rptr_inv
        obtain⟨v,hv,hr⟩:=hc i.toNat _ ((intsOf_at hns).2 i.toNat (by omega))
        refine⟨.pointer (some (ad.add i.toNat)),?_,R.rptr_mk (by rw[block_add];exact hg) fun j x hj=>?_⟩
        ·simp[Instr.indexAt,asIntOf_int,run_underlying hkd,h0,h1,hso,Instr.sureAddr,e1]
        ·cases j with
         |zero=>injection hj with hj;subst hj;exact⟨v,by rw[add_add];exact hv,hr⟩
         |succ j=>cases hj
       ·cases hl
     ·cases hl
    ·cases hl
   ·cases hl
  ·cases hl
 ·cases hl
def sliceF (T:TE) (t:TypeId) (lo hi:Option AV):AV→Option (List Prop×AV)
 |.rs sz n f=>match T.find t with
  |some ti=>match ti.kind with
   |.slice e=>match T.find e with
    |some te=>bif Nat.beq sz te.size then
      (match lo,hi with
       |none,none=>some ([],.rs sz n f)
       |some (.c (.int _ l)),none=>some ([0≤l∧l≤(n:Int)],.rs sz (n-l.toNat) (fun i=>f (i+l.toNat)))
       |none,some (.c (.int _ h))=>some ([0≤h∧h≤(n:Int)],.rs sz h.toNat f)
       |some (.c (.int _ l)),some (.c (.int _ h))=>some ([0≤l∧l≤h,h≤(n:Int)],.rs sz (h.toNat-l.toNat) (fun i=>f (i+l.toNat)))
       |_,_=>none) else none
    |none=>none
   |_=>none
  |none=>none
 |.c (.string s)=>match T.find t with
  |some ti=>match ti.kind with
   |.string=>(match lo,hi with
     |none,none=>some ([],.c (.string (s.extract 0 s.size)))
     |some (.c (.int _ l)),none=>some ([0≤l∧l≤(s.size:Int)],.c (.string (s.extract l.toNat s.size)))
     |none,some (.c (.int _ h))=>some ([0≤h∧h≤(s.size:Int)],.c (.string (s.extract 0 h.toNat)))
     |some (.c (.int _ l)),some (.c (.int _ h))=>some ([0≤l∧l≤h,h≤(s.size:Int)],.c (.string (s.extract l.toNat h.toNat)))
     |_,_=>none)
   |_=>none
  |none=>none
 |.rptr l=>match T.find t with
  |some ti=>match ti.kind with
   |.array n e=>match T.find e with
    |some te=>bif Nat.beq l.length (n*te.size)&&Nat.ble n 1000000 then
      (match lo,hi with
       |none,some (.c (.int _ h))=>some ([0≤h∧h≤(n:Int)],.rs te.size h.toNat (fun i=>(l.drop (i*te.size)).take te.size))
       |_,_=>none) else none
    |none=>none
   |_=>none
  |none=>none
 |_=>none
theorem R.rs_cut {G:Nat→Prop} {sz n cap:Nat} {f:Nat→List AV} {A:Option Addr} {l h:Nat} (hx:R w G ρ (.rs sz n f) (.slice A n cap)) (h1:l≤h) (h2:h≤n):
  R w G ρ (.rs sz (h-l) (fun i=>f (i+l))) (.slice (if cap=l then A else A.map (·.add (l*sz))) (h-l) (cap-l)):=by
 obtain⟨A',cap',he,hn,hm,hf,hc⟩:=hx.rs_inv
 injection he with e1 _ e3
 subst e1 e3
 refine R.rs_mk (by omega) (by omega) (fun i hi=>hf _ (by omega)) fun h0=>?_
 obtain⟨ad,rfl,hg,hcc⟩:=hc (by omega)
 rw[if_neg (by omega)]
 refine⟨ad.add (l*sz),rfl,by rw[block_add];exact hg,fun i hi=>?_⟩
 have:=hcc (i+l) (by omega)
 rw[add_add]
 rwa[Nat.add_mul,Nat.add_comm (i*sz)] at this
theorem sliceF_ok (hT:TOk E.P T) (h:SatR E st a w ρ) {t:TypeId} {x r:AV} {lo hi:Option AV} {u:Value} {vlo vhi:Option Value} {obl:List Prop} (hl:sliceF T t lo hi x=some (obl,r)) (ho:∀p∈obl,p)
  (hx:R w (E.good w ρ) ρ x u) (hlo:∀y,lo=some y→∃v,vlo=some v∧R w (E.good w ρ) ρ y v) (hlon:lo=none→vlo=none)
  (hhi:∀y,hi=some y→∃v,vhi=some v∧R w (E.good w ρ) ρ y v) (hhin:hi=none→vhi=none):
  ∃z,(Instr.sliceAt t u vlo vhi none).run E.P w=.ok z w∧R w (E.good w ρ) ρ r z:=by
 have _:=h
 have hlo':∀k l,lo=some (.c (.int k l))→vlo=some (.int k l):=fun k l e=>by obtain⟨v,h1,h2⟩:=hlo _ e;rw[h1,h2.c_inv]
 have hhi':∀k l,hi=some (.c (.int k l))→vhi=some (.int k l):=fun k l e=>by obtain⟨v,h1,h2⟩:=hhi _ e;rw[h1,h2.c_inv]
 have sb:∀{k:IntKind} {i:Int} {y:Nat} {code:BoundsCode},0≤i→i≤(y:Int)→(Instr.sliceBound (.int k i) y code).run E.P w=.ok i.toNat w:=by
  intro k i y code h0 h1
  simp[Instr.sliceBound,asIntOf_int,h0,h1]
 unfold sliceF at hl
 split at hl
 ·rename_i sz n f
  split at hl
  ·rename_i ti ht
   have hkd:=(hT t ti ht).kind
   split at hl
   ·rename_i e hk
    rw[hk] at hkd
    simp only[KindOk] at hkd
    split at hl
    ·rename_i te hte
     have hso:=(hT e te hte).run_sizeOf w
     cases hb:Nat.beq sz te.size with
     |false=>simp[hb] at hl
     |true=>
      have hsz:=Nat.eq_of_beq_eq_true hb
      subst hsz
      simp only[hb,cond_true] at hl
      obtain⟨A,cap,rfl,hn,hm,hf,hc⟩:=hx.rs_inv
      split at hl
      ·simp only[Option.some.injEq,Prod.mk.injEq] at hl
       obtain⟨rfl,rfl⟩:=hl
       rw[hlon rfl,hhin rfl]
       refine⟨_,?_,by simpa using R.rs_cut hx (Nat.zero_le n) (Nat.le_refl n)⟩
       simp[Instr.sliceAt,Instr.slice,Instr.sliceBounds,run_underlying hkd,hso]
      ·rename_i k l
       simp only[Option.some.injEq,Prod.mk.injEq] at hl
       obtain⟨rfl,rfl⟩:=hl
       obtain⟨h0,h1⟩:0≤l∧l≤(n:Int):=ho _ (by simp)
       rw[hlo' _ _ rfl,hhin rfl]
       refine⟨_,?_,R.rs_cut hx (l:=l.toNat) (h:=n) (by omega) (Nat.le_refl n)⟩
       simp[Instr.sliceAt,Instr.slice,Instr.sliceBounds,run_underlying hkd,hso,sb h0 h1]
      ·rename_i k hh
       simp only[Option.some.injEq,Prod.mk.injEq] at hl
       obtain⟨rfl,rfl⟩:=hl
       obtain⟨h0,h1⟩:0≤hh∧hh≤(n:Int):=ho _ (by simp)
       rw[hlon rfl,hhi' _ _ rfl]
       have h1':hh≤(cap:Int):=by omega
       refine⟨_,?_,by simpa using R.rs_cut hx (l:=0) (h:=hh.toNat) (by omega) (by omega)⟩
       simp[Instr.sliceAt,Instr.slice,Instr.sliceBounds,run_underlying hkd,hso,sb h0 h1']
      ·rename_i k l k' hh
       simp only[Option.some.injEq,Prod.mk.injEq] at hl
       obtain⟨rfl,rfl⟩:=hl
       obtain⟨h0,h1⟩:0≤l∧l≤hh:=ho _ (by simp)
       have h2:hh≤(n:Int):=ho _ (by simp)
       rw[hlo' _ _ rfl,hhi' _ _ rfl]
       have h1':hh≤(cap:Int):=by omega
       have h1'':l≤(hh.toNat:Int):=by omega
       refine⟨_,?_,R.rs_cut hx (l:=l.toNat) (h:=hh.toNat) (by omega) (by omega)⟩
       simp[Instr.sliceAt,Instr.slice,Instr.sliceBounds,run_underlying hkd,hso,sb (show 0≤hh by omega) h1',sb h0 h1'']
      ·cases hl
    ·cases hl
   ·cases hl
  ·cases hl
 ·rename_i s
  rw[hx.c_inv]
  split at hl
  ·rename_i ti ht
   have hkd:=(hT t ti ht).kind
   split at hl
   ·rename_i hk
    rw[hk] at hkd
    simp only[KindOk] at hkd
    split at hl
    ·simp only[Option.some.injEq,Prod.mk.injEq] at hl
     obtain⟨rfl,rfl⟩:=hl
     rw[hlon rfl,hhin rfl]
     exact⟨_,by simp[Instr.sliceAt,Instr.slice,Instr.sliceBounds,run_underlying hkd],.c⟩
    ·rename_i k l
     simp only[Option.some.injEq,Prod.mk.injEq] at hl
     obtain⟨rfl,rfl⟩:=hl
     obtain⟨h0,h1⟩:0≤l∧l≤(s.size:Int):=ho _ (by simp)
     rw[hlo' _ _ rfl,hhin rfl]
     exact⟨_,by simp[Instr.sliceAt,Instr.slice,Instr.sliceBounds,run_underlying hkd,sb h0 h1],.c⟩
    ·rename_i k hh
     simp only[Option.some.injEq,Prod.mk.injEq] at hl
     obtain⟨rfl,rfl⟩:=hl
     obtain⟨h0,h1⟩:0≤hh∧hh≤(s.size:Int):=ho _ (by simp)
     rw[hlon rfl,hhi' _ _ rfl]
     exact⟨_,by simp[Instr.sliceAt,Instr.slice,Instr.sliceBounds,run_underlying hkd,sb h0 h1],.c⟩
    ·rename_i k l k' hh
     simp only[Option.some.injEq,Prod.mk.injEq] at hl
     obtain⟨rfl,rfl⟩:=hl
     obtain⟨h0,h1⟩:0≤l∧l≤hh:=ho _ (by simp)
     have h2:hh≤(s.size:Int):=ho _ (by simp)
     rw[hlo' _ _ rfl,hhi' _ _ rfl]
     have h1'':l≤(hh.toNat:Int):=by omega
     exact⟨_,by simp[Instr.sliceAt,Instr.slice,Instr.sliceBounds,run_underlying hkd,sb (show 0≤hh by omega) h2,sb h0 h1''],.c⟩
    ·cases hl
   ·cases hl
  ·cases hl
 ·rename_i l
  split at hl
  ·rename_i ti ht
   have hkd:=(hT t ti ht).kind
   split at hl
   ·rename_i n e hk
    rw[hk] at hkd
    simp only[KindOk] at hkd
    split at hl
    ·rename_i te hte
     have hso:=(hT e te hte).run_sizeOf w
     cases hb:Nat.beq l.length (n*te.size)&&Nat.ble n 1000000 with
     |false=>simp[hb] at hl
     |true=>
      simp only[hb,cond_true] at hl
      simp only[Bool.and_eq_true] at hb
      have e1:=Nat.eq_of_beq_eq_true hb.1
      have e2:=Nat.le_of_ble_eq_true hb.2
      split at hl
      ·rename_i k hh
       simp only[Option.some.injEq,Prod.mk.injEq] at hl
       obtain⟨rfl,rfl⟩:=hl
       obtain⟨h0,h1⟩:0≤hh∧hh≤(n:Int):=ho _ (by simp)
       obtain⟨a,rfl,hg,hc⟩:=hx.rptr_inv
       rw[hlon rfl,hhi' _ _ rfl]
       have hrow:∀i,i<n→i*te.size+te.size≤n*te.size:=fun i hi=>by
        have:(i+1)*te.size≤n*te.size:=Nat.mul_le_mul_right te.size hi
        rw[Nat.add_mul] at this;omega
       refine⟨.slice (some a) hh.toNat n,?_,R.rs_mk (by omega) (by unfold maxLen;omega) (fun i hi=>?_) (fun _=>⟨a,rfl,hg,fun i hi j x hxj=>?_⟩)⟩
       ·have ha0:a.add 0=a:=by unfold Addr.add;simp
        simp[Instr.sliceAt,Instr.sureAddr,Instr.sliceBounds,run_underlying hkd,hso,sb h0 h1,ha0]
       ·have:=hrow i (by omega)
        simp only[List.length_take,List.length_drop]
        omega
       ·rw[add_add]
        refine hc _ x ?_
        simp only[List.getElem?_take,List.getElem?_drop] at hxj
        split at hxj
        ·exact hxj
        ·cases hxj
      ·cases hl
    ·cases hl
   ·cases hl
  ·cases hl
 ·cases hl
end
end Go.Eng
end
section
namespace Go.Eng
def lenF (T:TE) (ob:Nat→Option Ob) (t:TypeId):AV→Option (List Prop×AV)
 |.rs _ n _=>match T.find t with
  |some ti=>match ti.kind with
   |.slice _=>some ([],.c (.int .i64 n))
   |_=>none
  |none=>none
 |.vec k s=>match T.find t,ob k with
  |some ti,some (.vec _ _ s' n _)=>match ti.kind with
   |.slice _=>bif Nat.beq s s' then some ([],.c (.int .i64 n)) else none
   |_=>none
  |_,_=>none
 |.c (.slice _ n _)=>match T.find t with
  |some ti=>match ti.kind with
   |.slice _=>some ([],.c (.int .i64 n))
   |_=>none
  |none=>none
 |.c (.string b)=>match T.find t with
  |some ti=>match ti.kind with
   |.string=>some ([],.c (.int .i64 b.size))
   |_=>none
  |none=>none
 |_=>none
def extremeGo (mx:Bool) (k:IntKind) (a:Int):List AV→Option AV
 |[]=>some (.c (.int k a))
 |.c (.int k' b)::l=>if k=k' then extremeGo mx k (bif mx then(if a<b then b else a) else(if b<a then b else a)) l else none
 |_=>none
def extremeF (mx:Bool):List AV→Option AV
 |.c (.int k a)::l=>extremeGo mx k a l
 |_=>none
def partF (T:TE) (t:TypeId) (l:List AV) (o:Nat):Option AV:=
 match T.find t with
 |some ti=>bif ti.kind.agg then(bif Nat.ble (o+ti.size) l.length then some (.agg ((l.drop o).take ti.size)) else none) else l[o]?
 |none=>none
def fieldVF (T:TE) (s:TypeId) (f:Nat):AV→Option (List Prop×AV)
 |.agg l=>match T.find s with
  |some ti=>match ti.kind with
   |.struct pl ty=>match pl[f]?,ty[f]? with
    |some (o,_),some t=>match partF T t l o with
     |some x=>some ([],x)
     |none=>none
    |_,_=>none
   |_=>none
  |none=>none
 |_=>none
def indexVF (T:TE) (t:TypeId):AV→AV→Option (List Prop×AV)
 |.c (.string s),.c (.int _ i)=>match T.find t with
  |some ti=>match ti.kind with
   |.string=>some ([0≤i∧i<(s.size:Int)],.c (.int .u8 ((s[i.toNat]?).getD 0).toNat))
   |_=>none
  |none=>none
 |.agg l,.c (.int _ i)=>match T.find t with
  |some ti=>match ti.kind with
   |.array n e=>match T.find e with
    |some te=>match partF T e l (i.toNat*te.size) with
     |some x=>some ([0≤i∧i<(n:Int)],x)
     |none=>none
    |none=>none
   |_=>none
  |none=>none
 |_,_=>none
section
variable {E:Env} {st:ST} {a:Act} {w:World} {ρ:Rho} {T:TE}
theorem lenF_ok (hT:TOk E.P T) (h:SatR E st a w ρ) {t ty:TypeId} {x r:AV} {u:Value} {obl:List Prop} (hl:lenF T st.ob t x=some (obl,r)) (hx:R w (E.good w ρ) ρ x u):
  ∃z,(Builtin.len_ #[t] ty #[u]).run E.P w=.ok z w∧R w (E.good w ρ) ρ r z:=by
 unfold lenF at hl
 split at hl
 ·split at hl
  ·rename_i ti ht
   have hkd:=(hT t ti ht).kind
   split at hl
   ·rename_i e hk
    rw[hk] at hkd
    simp only[KindOk] at hkd
    simp only[Option.some.injEq,Prod.mk.injEq] at hl
    obtain⟨rfl,rfl⟩:=hl
    obtain⟨A,cap,rfl,_⟩:=hx.rs_inv
    exact⟨_,by simp[Builtin.len_,run_underlying hkd,goInt],.c⟩
   ·cases hl
  ·cases hl
 ·rename_i k s
  split at hl
  ·rename_i ti e sz s' n f ht ho
   have hkd:=(hT t ti ht).kind
   split at hl
   ·rename_i e' hk
    rw[hk] at hkd
    simp only[KindOk] at hkd
    cases hb:Nat.beq s s' with
    |false=>simp[hb] at hl
    |true=>
     simp only[hb,cond_true,Option.some.injEq,Prod.mk.injEq] at hl
     obtain⟨rfl,rfl⟩:=hl
     obtain⟨_,_,_,_,xs,ho',hk',hown,_⟩:=h.live_vec (by simp[live,ho,hb]) hx
     have hs:=Nat.eq_of_beq_eq_true hb
     subst hs
     rw[ho] at ho'
     injection ho' with ho'
     injection ho' with h2 h3 _ h4 h5
     subst h2 h3 h4 h5
     rcases hown.2 with⟨rfl,hn⟩|⟨g,cap,cur,rfl,_⟩
     ·subst hn
      exact⟨_,by simp[Builtin.len_,run_underlying hkd,goInt],.c⟩
     ·exact⟨_,by simp[Builtin.len_,run_underlying hkd,goInt],.c⟩
   ·cases hl
  ·cases hl
 ·rw[hx.c_inv]
  split at hl
  ·rename_i ti ht
   have hkd:=(hT t ti ht).kind
   split at hl
   ·rename_i e hk
    rw[hk] at hkd
    simp only[KindOk] at hkd
    simp only[Option.some.injEq,Prod.mk.injEq] at hl
    obtain⟨rfl,rfl⟩:=hl
    exact⟨_,by simp[Builtin.len_,run_underlying hkd,goInt],.c⟩
   ·cases hl
  ·cases hl
 ·rw[hx.c_inv]
  split at hl
  ·rename_i ti ht
   have hkd:=(hT t ti ht).kind
   split at hl
   ·rename_i hk
    rw[hk] at hkd
    simp only[KindOk] at hkd
    simp only[Option.some.injEq,Prod.mk.injEq] at hl
    obtain⟨rfl,rfl⟩:=hl
    exact⟨_,by simp[Builtin.len_,run_underlying hkd,goInt],.c⟩
   ·cases hl
  ·cases hl
 ·cases hl
theorem extremeGo_ok {P:Program} {G:Nat→Prop} {mx:Bool} {k:IntKind}:∀{l:List AV} {vs:List Value} {a:Int} {r:AV},extremeGo mx k a l=some r→vs.length=l.length→(∀(i:Nat) (x:AV),l[i]?=some x→R w G ρ x (vs.getD i undef))→
  ∃z,(vs.foldlM (if mx then Builtin.max2 else Builtin.min2) (.int k a)).run P w=.ok z w∧R w G ρ r z
 |[],vs,a,r,h,hlen,_=>by
  simp only[extremeGo,Option.some.injEq] at h
  subst h
  have:vs=[]:=List.eq_nil_of_length_eq_zero hlen
  subst this
  exact⟨_,rfl,.c⟩
 |x::l,[],a,r,h,hlen,_=>by simp at hlen
 |x::l,v::vs,a,r,h,hlen,hr=>by
  unfold extremeGo at h
  split at h
  ·rename_i heq;cases heq
  ·rename_i k' b l' heq
   injection heq with h1 h2
   subst h1 h2
   split at h
   ·rename_i hk
    subst hk
    have h1:=(hr 0 _ rfl).c_inv
    simp at h1
    subst h1
    obtain⟨z,hz,hrz⟩:=extremeGo_ok (P:=P) h (by simpa using hlen) (fun i x hx=>by simpa using hr (i+1) x (by simpa using hx))
    refine⟨z,?_,hrz⟩
    cases mx
    ·simpa[Builtin.min2,List.foldlM] using hz
    ·simpa[Builtin.max2,List.foldlM] using hz
   ·cases h
  ·cases h
theorem extremeF_ok {P:Program} {G:Nat→Prop} {mx:Bool} {l:List AV} {vs:Array Value} {r:AV} (h:extremeF mx l=some r) (hlen:vs.size=l.length) (hr:∀(i:Nat) (x:AV),l[i]?=some x→R w G ρ x (vs.getD i undef)) (ts:Array TypeId) (ty:TypeId):
  ∃z,((if mx then Builtin.max_ ts ty vs else Builtin.min_ ts ty vs):Sem Value).run P w=.ok z w∧R w G ρ r z:=by
 unfold extremeF at h
 split at h
 ·rename_i k a l'
  obtain⟨vs⟩:=vs
  match vs,hlen with
  |v::vs,hlen=>
   have h1:=(hr 0 _ rfl).c_inv
   simp at h1
   subst h1
   obtain⟨z,hz,hrz⟩:=extremeGo_ok (P:=P) (w:=w) (ρ:=ρ) (G:=G) (vs:=vs) h (by simpa using hlen) (fun i x hx=>by simpa using hr (i+1) x (by simpa using hx))
   refine⟨z,?_,hrz⟩
   cases mx
   ·simpa[Builtin.min_] using hz
   ·simpa[Builtin.max_] using hz
 ·cases h
theorem partF_ok {P:Program} {G:Nat→Prop} (hT:TOk P T) {t:TypeId} {l:List AV} {o:Nat} {x:AV} {cs:Array Value} (h:partF T t l o=some x) (hs:cs.size=l.length)
  (hr:∀i a,l[i]?=some a→R w G ρ a (cs.getD i undef)):∃z,(part t cs o).run P w=.ok z w∧R w G ρ x z:=by
 unfold partF at h
 split at h
 ·rename_i ti ht
  have hk:=hT t ti ht
  cases ha:ti.kind.agg with
  |false=>
   simp only[ha,cond_false] at h
   have ho:o<cs.size:=by rw[hs];exact(List.getElem?_eq_some_iff.1 h).1
   refine⟨cs.getD o undef,?_,hr o x h⟩
   simp[part,hk.run_isAgg w,ha,ho]
  |true=>
   simp only[ha,cond_true] at h
   cases hb:Nat.ble (o+ti.size) l.length with
   |false=>simp[hb] at h
   |true=>
    simp only[hb,cond_true,Option.some.injEq] at h
    subst h
    have hle:=Nat.le_of_ble_eq_true hb
    refine⟨.agg (cs.extract o (o+ti.size)),by simp[part,hk.run_isAgg w,ha,hk.run_sizeOf w],.agg ?_ fun i y hy=>?_⟩
    ·simp only[Array.size_extract,List.length_take,List.length_drop];omega
    ·have hi:i<ti.size:=by
      have:=(List.getElem?_eq_some_iff.1 hy).1
      simp at this;omega
     rw[List.getElem?_take,if_pos hi,List.getElem?_drop] at hy
     have:=hr (o+i) y hy
     have h3:(cs.extract o (o+ti.size)).getD i undef=cs.getD (o+i) undef:=by
      have h4:i<(cs.extract o (o+ti.size)).size:=by simp only[Array.size_extract];omega
      have h5:o+i<cs.size:=by omega
      simp only[Array.getD_eq_getD_getElem?,Array.getElem?_eq_getElem h4,Array.getElem?_eq_getElem h5,Array.getElem_extract]
     rw[h3];exact this
 ·cases h
theorem fieldVF_ok (hT:TOk E.P T) {s:TypeId} {f:Nat} {x r:AV} {v:Value} {obl:List Prop} (hl:fieldVF T s f x=some (obl,r)) (hr:R w (E.good w ρ) ρ x v):
  ∃z,(Instr.field s v f).run E.P w=.ok z w∧R w (E.good w ρ) ρ r z:=by
 unfold fieldVF at hl
 split at hl
 ·rename_i l
  obtain⟨cs,rfl,hs,hrs⟩:=hr.agg_inv
  split at hl
  ·rename_i ti ht
   split at hl
   ·rename_i pl ty hk
    split at hl
    ·rename_i o sz t hf hty
     obtain⟨fs,fd,inf,h1,h2,h3,h4,h5,h6⟩:=(hT s ti ht).field hk hf
     rw[h6] at hty
     injection hty with hty
     split at hl
     ·rename_i y hy
      simp only[Option.some.injEq,Prod.mk.injEq] at hl
      obtain⟨rfl,rfl⟩:=hl
      obtain⟨z,hz,hrz⟩:=partF_ok (P:=E.P) hT hy hs hrs
      refine⟨z,?_,hrz⟩
      rw[←hty,←h3] at hz
      simp[Instr.field,run_underlying h1,h2,asAgg,hz]
     ·cases hl
    ·cases hl
   ·cases hl
  ·cases hl
 ·cases hl
theorem indexVF_ok (hT:TOk E.P T) {t:TypeId} {x y r:AV} {u v:Value} {obl:List Prop} (hl:indexVF T t x y=some (obl,r)) (ho:∀p∈obl,p)
  (hx:R w (E.good w ρ) ρ x u) (hy:R w (E.good w ρ) ρ y v):∃z,(Instr.index t u v).run E.P w=.ok z w∧R w (E.good w ρ) ρ r z:=by
 unfold indexVF at hl
 split at hl
 ·rename_i s ik i
  rw[hx.c_inv,hy.c_inv]
  split at hl
  ·rename_i ti ht
   have hkd:=(hT t ti ht).kind
   split at hl
   ·rename_i hk
    rw[hk] at hkd
    simp only[KindOk] at hkd
    simp only[Option.some.injEq,Prod.mk.injEq] at hl
    obtain⟨rfl,rfl⟩:=hl
    obtain⟨h0,h1⟩:0≤i∧i<(s.size:Int):=ho _ (by simp)
    have hi:i.toNat<s.size:=by omega
    refine⟨_,?_,.c⟩
    simp[Instr.index,asIntOf_int,run_underlying hkd,h0,hi]
   ·cases hl
  ·cases hl
 ·rename_i l ik i
  obtain⟨cs,rfl,hs,hrs⟩:=hx.agg_inv
  rw[hy.c_inv]
  split at hl
  ·rename_i ti ht
   have hkd:=(hT t ti ht).kind
   split at hl
   ·rename_i n e hk
    rw[hk] at hkd
    simp only[KindOk] at hkd
    split at hl
    ·rename_i te hte
     split at hl
     ·rename_i y' hy'
      simp only[Option.some.injEq,Prod.mk.injEq] at hl
      obtain⟨rfl,rfl⟩:=hl
      obtain⟨h0,h1⟩:0≤i∧i<(n:Int):=ho _ (by simp)
      obtain⟨z,hz,hrz⟩:=partF_ok (P:=E.P) hT hy' hs hrs
      refine⟨z,?_,hrz⟩
      simp[Instr.index,asIntOf_int,run_underlying hkd,h0,h1,(hT e te hte).run_sizeOf w,hz]
     ·cases hl
    ·cases hl
   ·cases hl
  ·cases hl
 ·cases hl
end
def setL:List AV→Nat→List AV→List AV
 |[],_,_=>[]
 |c::cs,0,[]=>c::cs
 |_::cs,0,v::vs=>v::setL cs 0 vs
 |c::cs,n+1,vs=>c::setL cs n vs
theorem setL_length:∀(cs:List AV) (o:Nat) (vs:List AV),(setL cs o vs).length=cs.length
 |[],_,_=>rfl
 |_::_,0,[]=>rfl
 |_::cs,0,_::vs=>by simp[setL,setL_length cs 0 vs]
 |_::cs,n+1,vs=>by simp[setL,setL_length cs n vs]
theorem setL_get:∀(cs:List AV) (o:Nat) (vs:List AV) (i:Nat),o+vs.length≤cs.length→(setL cs o vs)[i]?=if o≤i∧i<o+vs.length then vs[i-o]? else cs[i]?
 |[],o,vs,i,h=>by
  have:vs=[]:=List.eq_nil_of_length_eq_zero (by simp only[List.length_nil] at h;omega)
  subst this
  simp[setL]
 |c::cs,0,[],i,_=>by simp[setL]
 |c::cs,0,v::vs,i,h=>by
  cases i with
  |zero=>simp[setL]
  |succ i=>
   have:=setL_get cs 0 vs i (by simp at h ⊢;omega)
   simp[setL,this]
 |c::cs,n+1,vs,i,h=>by
  cases i with
  |zero=>simp[setL]
  |succ i=>
   have:=setL_get cs n vs i (by simp at h ⊢;omega)
   simp only[setL,List.getElem?_cons_succ,this]
   by_cases hc:n≤i∧i<n+vs.length
   ·rw[if_pos hc,if_pos (by omega),show i+1-(n+1)=i-n by omega]
   ·rw[if_neg hc,if_neg (by omega)]
def fillF (pl:Nat→Option (Nat×Nat)) (cells:List AV):List (Nat×List AV)→Option (List AV)
 |[]=>some cells
 |(i,vs)::rest=>match pl i with
  |none=>none
  |some (o,sz)=>bif Nat.beq vs.length sz&&Nat.ble (o+sz) cells.length then fillF pl (setL cells o vs) rest else none
theorem foldl_set (vs:List Value):∀(o k:Nat) (cs:Array Value),o+k+vs.length≤cs.size→
  let r:=(vs.zipIdx k).foldl (fun cs (x:Value×Nat)=>cs.setIfInBounds (o+x.2) x.1) cs
  r.size=cs.size∧∀i,r.getD i undef=if o+k≤i∧i<o+k+vs.length then vs.getD (i-(o+k)) undef else cs.getD i undef:=by
 induction vs with
 |nil=>intro o k cs _;exact⟨rfl,fun i=>by simp;omega⟩
 |cons v vs ih=>
  intro o k cs h
  simp only[List.zipIdx_cons,List.foldl_cons]
  obtain⟨h1,h2⟩:=ih o (k+1) (cs.setIfInBounds (o+k) v) (by simp at h ⊢;omega)
  refine⟨by simpa using h1,fun i=>?_⟩
  rw[h2 i]
  simp only[List.length_cons] at h ⊢
  by_cases e:i=o+k
  ·subst e
   rw[if_neg (by omega),if_pos (by omega)]
   have:o+k<cs.size:=by omega
   simp[this]
  ·by_cases e2:o+(k+1)≤i∧i<o+(k+1)+vs.length
   ·rw[if_pos e2,if_pos (by omega),show i-(o+k)=(i-(o+(k+1)))+1 by omega]
    simp
   ·rw[if_neg e2,if_neg (by omega)]
    simp[Array.getElem?_setIfInBounds_ne (Ne.symm e)]
section
variable {w:World} {G:Nat→Prop} {ρ:Rho}
theorem fillF_ok {pl:Nat→Option (Nat×Nat)}:∀{parts:List (Nat×List AV)} {vparts:List (Nat×Value)} {cells r:List AV} {arr:Array Value},fillF pl cells parts=some r→
  vparts.length=parts.length→(∀(j i:Nat) (l:List AV),parts[j]?=some (i,l)→∃v,vparts[j]?=some (i,v)∧v.cells.size=l.length∧∀k y,l[k]?=some y→R w G ρ y (v.cells.getD k undef))→
  arr.size=cells.length→(∀i x,cells[i]?=some x→R w G ρ x (arr.getD i undef))→
  ∃arr',Instr.fill pl arr vparts=some arr'∧arr'.size=r.length∧∀i x,r[i]?=some x→R w G ρ x (arr'.getD i undef)
 |[],vparts,cells,r,arr,h,hl,_,hs,hr=>by
  simp only[fillF,Option.some.injEq] at h
  subst h
  have:vparts=[]:=List.eq_nil_of_length_eq_zero hl
  subst this
  exact⟨arr,rfl,hs,hr⟩
 |(i,vs)::rest,[],cells,r,arr,h,hl,_,_,_=>by simp at hl
 |(i,vs)::rest,(i',v)::vrest,cells,r,arr,h,hl,hp,hs,hr=>by
  obtain⟨v',hv',h1,h2⟩:=hp 0 i vs rfl
  simp only[List.getElem?_cons_zero,Option.some.injEq,Prod.mk.injEq] at hv'
  obtain⟨rfl,rfl⟩:=hv'
  simp only[fillF] at h
  cases hpl:pl i' with
  |none=>simp[hpl] at h
  |some os=>
   obtain⟨o,sz⟩:=os
   simp only[hpl] at h
   cases hb:Nat.beq vs.length sz&&Nat.ble (o+sz) cells.length with
   |false=>simp[hb] at h
   |true=>
    simp only[hb,cond_true] at h
    simp only[Bool.and_eq_true] at hb
    have hsz:=Nat.eq_of_beq_eq_true hb.1
    have hle:=Nat.le_of_ble_eq_true hb.2
    subst hsz
    have hf:=foldl_set v.cells.toList o 0 arr (by simp;omega)
    simp only[Nat.add_zero] at hf
    obtain⟨h3,h4⟩:=hf
    have hz:v.cells.zipIdx.foldl (fun cs (x:Value×Nat)=>cs.setIfInBounds (o+x.2) x.1) arr=(v.cells.toList.zipIdx 0).foldl (fun cs (x:Value×Nat)=>cs.setIfInBounds (o+x.2) x.1) arr:=by
     rw[←Array.foldl_toList];congr 1;simp
    obtain⟨arr',h5,h6,h7⟩:=fillF_ok (arr:=v.cells.zipIdx.foldl (fun cs (x:Value×Nat)=>cs.setIfInBounds (o+x.2) x.1) arr) h (by simpa using hl)
     (fun j i l hj=>by simpa using hp (j+1) i l (by simpa using hj)) (by rw[hz,h3,setL_length];exact hs) (fun k x hk=>by
      rw[hz,h4 k]
      rw[setL_get _ _ _ _ hle] at hk
      simp only[Array.length_toList,h1]
      by_cases hc:o≤k∧k<o+vs.length
      ·rw[if_pos hc] at hk ⊢
       simpa using h2 _ _ hk
      ·rw[if_neg hc] at hk ⊢
       exact hr k x hk)
    refine⟨arr',?_,h6,h7⟩
    simp only[Instr.fill,hpl]
    rw[if_neg (by simp[h1];omega)]
    exact h5
end
end Go.Eng
end
