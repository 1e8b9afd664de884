import Derived.WalkKit
import Derived.Orders
import Derived.RangeFuncIn
import Derived.RangeFuncRecord
import Derived.RangeFuncLeaves
import Derived.OrdersIn
import Derived.LoopNIn
import Derived.RangeFuncCalls
import Derived.TacticsIn
import Derived.MapKept
set_option linter.unusedSimpArgs false
set_option linter.unusedVariables false
section
namespace Go.Eng
inductive AV where
 |junk
 |c (v:Value)
 |agg (l:List AV)
 |tup (l:List AV)
 |ptr (k off:Nat)
 |mp (k:Nat)
 |vptr (k s sz i off:Nat)
 |rptr (l:List AV)
 |rs (sz n:Nat) (f:Nat→List AV)
 |vec (k s:Nat)
 |fn (f:Fn) (first cap:List AV)
 |gd (g:Bool) (a:AV)
inductive RV where
 |blk (g:Nat)
 |hdr (s:Nat) (v:Value)
def RV.block:RV→Option Nat
 |.blk g=>some g
 |.hdr _ v=>v.ownBlock
abbrev Rho:=Nat→Option RV
def Rho.none:Rho:=fun _=>Option.none
inductive R (w:World) (G:Nat→Prop):Rho→AV→Value→Prop
 |junk {ρ:Rho} {v:Value}:R w G ρ .junk v
 |c {ρ:Rho} {v:Value}:R w G ρ (.c v) v
 |agg {ρ:Rho} {l:List AV} {cs:Array Value} (hs:cs.size=l.length) (h:∀i a,l[i]?=some a→R w G ρ a (cs.getD i undef)):R w G ρ (.agg l) (.agg cs)
 |tup {ρ:Rho} {l:List AV} {cs:Array Value} (hs:cs.size=l.length) (h:∀i a,l[i]?=some a→R w G ρ a (cs.getD i undef)):R w G ρ (.tup l) (.tuple cs)
 |ptr {ρ:Rho} {k off g:Nat} (hk:ρ k=some (.blk g)):R w G ρ (.ptr k off) (.pointer (some ⟨g,off,.none⟩))
 |mp {ρ:Rho} {k g:Nat} (hk:ρ k=some (.blk g)):R w G ρ (.mp k) (.map (some g))
 |vptr {ρ:Rho} {k s sz i off g n cap:Nat} (hk:ρ k=some (.hdr s (.slice (some ⟨g,0,.none⟩) n cap))) (hi:i<n):R w G ρ (.vptr k s sz i off) (.pointer (some ⟨g,i*sz+off,.none⟩))
 |vptrOld {ρ:Rho} {k s s' sz i off:Nat} {hv v:Value} (hk:ρ k=some (.hdr s' hv)) (hs:s<s'):R w G ρ (.vptr k s sz i off) v
 |vec {ρ:Rho} {k s:Nat} {hv:Value} (hk:ρ k=some (.hdr s hv)):R w G ρ (.vec k s) hv
 |vecOld {ρ:Rho} {k s s':Nat} {hv v:Value} (hk:ρ k=some (.hdr s' hv)) (hs:s<s'):R w G ρ (.vec k s) v
 |rptr {ρ:Rho} {l:List AV} {a:Addr} (val:Nat→Value) (hg:G a.block) (hc:∀i,i<l.length→w.cell? (a.add i)=some (val i)) (h:∀i x,l[i]?=some x→R w G Rho.none x (val i)):R w G ρ (.rptr l) (.pointer (some a))
 |rs {ρ:Rho} {sz n:Nat} {f:Nat→List AV} {A:Option Addr} {cap:Nat} (val:Nat→Nat→Value) (hn:n≤cap) (hm:cap≤maxLen)
   (hc:0<n→∃a,A=some a∧G a.block∧∀i j,i<n→j<sz→w.cell? (a.add (i*sz+j))=some (val i j))
   (hl:∀i,i<n→(f i).length=sz) (h:∀i j x,i<n→(f i)[j]?=some x→R w G Rho.none x (val i j)):R w G ρ (.rs sz n f) (.slice A n cap)
 |fn {ρ:Rho} {f:Fn} {l l':List AV} {fs cs:Array Value} (hs:fs.size=l.length) (h:∀i a,l[i]?=some a→R w G ρ a (fs.getD i undef))
   (hs':cs.size=l'.length) (h':∀i a,l'[i]?=some a→R w G ρ a (cs.getD i undef)):R w G ρ (.fn f l l') (.func f fs cs)
 |gd {ρ:Rho} {g:Bool} {a:AV} {v:Value} (ht:g=true→R w G ρ a v) (hf:g=false→v=undef):R w G ρ (.gd g a) v
def Le (ρ ρ':Rho):Prop:=∀k x,ρ k=some x→ρ' k=some x∨∃s v s' v',x=.hdr s v∧ρ' k=some (.hdr s' v')∧s<s'
theorem Le.refl (ρ:Rho):Le ρ ρ:=fun _ _ h=>.inl h
theorem Le.none (ρ:Rho):Le Rho.none ρ:=fun _ _ h=>by cases h
theorem block_add (a:Addr) (n:Nat):(a.add n).block=a.block:=by unfold Addr.add;split<;>rfl
theorem add_add (a:Addr) (i j:Nat):(a.add i).add j=a.add (i+j):=by
 unfold Addr.add
 by_cases hi:i=0<;>by_cases hj:j=0<;>simp[hi,hj,Nat.add_assoc]
theorem R.trC {w w':World} {G G':Nat→Prop} (hG:∀b,G b→G' b∧∀a v,a.block=b→w.cell? a=some v→w'.cell? a=some v) {ρ:Rho} {a:AV} {v:Value} (h:R w G ρ a v):
  ∀ρ',Le ρ ρ'→R w' G' ρ' a v:=by
 induction h with
 |junk=>exact fun _ _=>.junk
 |c=>exact fun _ _=>.c
 |agg hs _ ih=>exact fun ρ' hl=>.agg hs fun i a h=>ih i a h ρ' hl
 |tup hs _ ih=>exact fun ρ' hl=>.tup hs fun i a h=>ih i a h ρ' hl
 |ptr hk=>
  intro ρ' hl
  rcases hl _ _ hk with h|⟨s,v,_,_,h,_⟩
  ·exact .ptr h
  ·cases h
 |mp hk=>
  intro ρ' hl
  rcases hl _ _ hk with h|⟨s,v,_,_,h,_⟩
  ·exact .mp h
  ·cases h
 |vptr hk hi=>
  intro ρ' hl
  rcases hl _ _ hk with h|⟨s,v,s',v',h,h',hs⟩
  ·exact .vptr h hi
  ·cases h;exact .vptrOld h' hs
 |vptrOld hk hs=>
  intro ρ' hl
  rcases hl _ _ hk with h|⟨s,v,s',v',h,h',hs'⟩
  ·exact .vptrOld h hs
  ·cases h;exact .vptrOld h' (Nat.lt_trans hs hs')
 |vec hk=>
  intro ρ' hl
  rcases hl _ _ hk with h|⟨s,v,s',v',h,h',hs⟩
  ·exact .vec h
  ·cases h;exact .vecOld h' hs
 |vecOld hk hs=>
  intro ρ' hl
  rcases hl _ _ hk with h|⟨s,v,s',v',h,h',hs'⟩
  ·exact .vecOld h hs
  ·cases h;exact .vecOld h' (Nat.lt_trans hs hs')
 |rptr val hg hc _ ih=>
  intro ρ' _
  refine .rptr val (hG _ hg).1 (fun i hi=>?_) (fun i x hx=>ih i x hx _ (Le.none _))
  exact(hG _ hg).2 _ _ (block_add _ _) (hc i hi)
 |rs val hn hm hc hl _ ih=>
  intro ρ' _
  refine .rs val hn hm (fun h0=>?_) hl (fun i j x hi hx=>ih i j x hi hx _ (Le.none _))
  obtain⟨a,rfl,hg,hcc⟩:=hc h0
  refine⟨a,rfl,(hG _ hg).1,fun i j hi hj=>?_⟩
  exact(hG _ hg).2 _ _ (block_add _ _) (hcc i j hi hj)
 |fn hs _ hs' _ ih ih'=>exact fun ρ' hl=>.fn hs (fun i a h=>ih i a h ρ' hl) hs' (fun i a h=>ih' i a h ρ' hl)
 |gd _ hf ih=>exact fun ρ' hl=>.gd (fun h=>ih h ρ' hl) hf
theorem R.tr {w w':World} {G G':Nat→Prop} (hG:∀b,G b→G' b∧w'.heap[b]?=w.heap[b]?) {ρ:Rho} {a:AV} {v:Value} (h:R w G ρ a v):∀ρ',Le ρ ρ'→R w' G' ρ' a v:=
 h.trC fun b hb=>⟨(hG b hb).1,fun a v ha hc=>by rw[World.cell?_of_block (w:=w)];exact hc;rw[ha];exact(hG b hb).2⟩
mutual
def AV.ks (p:Nat→Bool):AV→Bool
 |.agg l=>AV.ksL p l
 |.tup l=>AV.ksL p l
 |.ptr k _=>p k
 |.mp k=>p k
 |.vptr k _ _ _ _=>p k
 |.vec k _=>p k
 |.fn _ l l'=>AV.ksL p l&&AV.ksL p l'
 |.gd _ a=>AV.ks p a
 |.junk=>true
 |.c _=>true
 |.rptr _=>true
 |.rs _ _ _=>true
def AV.ksL (p:Nat→Bool):List AV→Bool
 |[]=>true
 |a::l=>AV.ks p a&&AV.ksL p l
end
theorem AV.ksL_at {p:Nat→Bool}:∀{l:List AV} {i:Nat} {a:AV},AV.ksL p l=true→l[i]?=some a→a.ks p=true
 |[],i,a,_,h=>by simp at h
 |b::l,0,a,hl,h=>by simp at h;subst h;simp[AV.ksL] at hl;exact hl.1
 |b::l,i+1,a,hl,h=>by simp at h;simp[AV.ksL] at hl;exact AV.ksL_at hl.2 h
theorem R.cut {w:World} {G:Nat→Prop} {ρ:Rho} {a:AV} {v:Value} (h:R w G ρ a v):
  ∀(p:Nat→Bool) (ρ':Rho),(∀k,p k=true→ρ' k=ρ k)→a.ks p=true→R w G ρ' a v:=by
 induction h with
 |junk=>exact fun _ _ _ _=>.junk
 |c=>exact fun _ _ _ _=>.c
 |agg hs _ ih=>exact fun p ρ' hp hk=>.agg hs fun i a h=>ih i a h p ρ' hp (AV.ksL_at (by simpa[AV.ks] using hk) h)
 |tup hs _ ih=>exact fun p ρ' hp hk=>.tup hs fun i a h=>ih i a h p ρ' hp (AV.ksL_at (by simpa[AV.ks] using hk) h)
 |mp hk=>exact fun p ρ' hp h=>.mp ((hp _ (by simpa[AV.ks] using h)).trans hk)
 |ptr hk=>exact fun p ρ' hp h=>.ptr ((hp _ (by simpa[AV.ks] using h)).trans hk)
 |vptr hk hi=>exact fun p ρ' hp h=>.vptr ((hp _ (by simpa[AV.ks] using h)).trans hk) hi
 |vptrOld hk hs=>exact fun p ρ' hp h=>.vptrOld ((hp _ (by simpa[AV.ks] using h)).trans hk) hs
 |vec hk=>exact fun p ρ' hp h=>.vec ((hp _ (by simpa[AV.ks] using h)).trans hk)
 |vecOld hk hs=>exact fun p ρ' hp h=>.vecOld ((hp _ (by simpa[AV.ks] using h)).trans hk) hs
 |rptr val hg hc h _=>exact fun _ _ _ _=>.rptr val hg hc h
 |rs val hn hm hc hl h _=>exact fun _ _ _ _=>.rs val hn hm hc hl h
 |fn hs _ hs' _ ih ih'=>
  intro p ρ' hp hk
  simp only[AV.ks,Bool.and_eq_true] at hk
  exact .fn hs (fun i a h=>ih i a h p ρ' hp (AV.ksL_at hk.1 h)) hs' (fun i a h=>ih' i a h p ρ' hp (AV.ksL_at hk.2 h))
 |gd _ hf ih=>exact fun p ρ' hp hk=>.gd (fun h=>ih h p ρ' hp (by simpa[AV.ks] using hk)) hf
theorem R.free {w:World} {G:Nat→Prop} {ρ ρ':Rho} {a:AV} {v:Value} (h:R w G ρ a v) (hk:a.ks (fun _=>false)=true):R w G ρ' a v:=
 h.cut (fun _=>false) ρ' (fun _ h=>by cases h) hk
mutual
def AV.flat:AV→Bool
 |.agg l=>AV.flatL l
 |.tup l=>AV.flatL l
 |.c _=>true
 |.junk=>true
 |.ptr _ _=>false
 |.mp _=>false
 |.vptr _ _ _ _ _=>false
 |.vec _ _=>false
 |.fn _ _ _=>false
 |.gd _ _=>false
 |.rptr _=>false
 |.rs _ _ _=>false
def AV.flatL:List AV→Bool
 |[]=>true
 |a::l=>AV.flat a&&AV.flatL l
end
theorem AV.flatL_at:∀{l:List AV} {i:Nat} {a:AV},AV.flatL l=true→l[i]?=some a→a.flat=true
 |[],i,a,_,h=>by simp at h
 |b::l,0,a,hl,h=>by simp at h;subst h;simp[AV.flatL] at hl;exact hl.1
 |b::l,i+1,a,hl,h=>by simp at h;simp[AV.flatL] at hl;exact AV.flatL_at hl.2 h
theorem R.of_flat {w w':World} {G G':Nat→Prop} {ρ:Rho} {a:AV} {v:Value} (h:R w G ρ a v):∀ρ':Rho,a.flat=true→R w' G' ρ' a v:=by
 induction h with
 |junk=>exact fun _ _=>.junk
 |c=>exact fun _ _=>.c
 |agg hs _ ih=>exact fun ρ' hk=>.agg hs fun i a h=>ih i a h ρ' (AV.flatL_at (by simpa[AV.flat] using hk) h)
 |tup hs _ ih=>exact fun ρ' hk=>.tup hs fun i a h=>ih i a h ρ' (AV.flatL_at (by simpa[AV.flat] using hk) h)
 |ptr=>intro _ h;simp[AV.flat] at h
 |mp=>intro _ h;simp[AV.flat] at h
 |vptr=>intro _ h;simp[AV.flat] at h
 |vptrOld=>intro _ h;simp[AV.flat] at h
 |vec=>intro _ h;simp[AV.flat] at h
 |vecOld=>intro _ h;simp[AV.flat] at h
 |rptr=>intro _ h;simp[AV.flat] at h
 |rs=>intro _ h;simp[AV.flat] at h
 |fn=>intro _ h;simp[AV.flat] at h
 |gd=>intro _ h;simp[AV.flat] at h
mutual
def frc:AV→Option AV
 |.junk=>some .junk
 |.c v=>some (.c v)
 |.agg l=>match frcL l with
  |some l'=>some (.agg l')
  |none=>none
 |.tup l=>match frcL l with
  |some l'=>some (.tup l')
  |none=>none
 |.ptr k off=>(match k with
  |0=>some (.ptr 0 off)
  |k'+1=>some (.ptr (k'+1) off))
 |.mp k=>(match k with
  |0=>some (.mp 0)
  |k'+1=>some (.mp (k'+1)))
 |.vptr k s sz i off=>(match k with
  |0=>some (.vptr 0 s sz i off)
  |k'+1=>some (.vptr (k'+1) s sz i off))
 |.rptr l=>some (.rptr l)
 |.rs sz n f=>some (.rs sz n f)
 |.vec k s=>(match k with
  |0=>some (.vec 0 s)
  |k'+1=>some (.vec (k'+1) s))
 |.fn f l l'=>some (.fn f l l')
 |.gd g a=>match frc a with
  |some a'=>some (.gd g a')
  |none=>none
def frcL:List AV→Option (List AV)
 |[]=>some []
 |a::l=>match frc a,frcL l with
  |some a',some l'=>some (a'::l')
  |_,_=>none
end
mutual
theorem frc_eq:∀{a b:AV},frc a=some b→b=a
 |.junk,b,h=>by simp[frc] at h;exact h.symm
 |.c v,b,h=>by simp[frc] at h;exact h.symm
 |.agg l,b,h=>by
  simp only[frc] at h
  cases hl:frcL l with
  |none=>simp[hl] at h
  |some l'=>simp[hl] at h;rw[←h,frcL_eq hl]
 |.tup l,b,h=>by
  simp only[frc] at h
  cases hl:frcL l with
  |none=>simp[hl] at h
  |some l'=>simp[hl] at h;rw[←h,frcL_eq hl]
 |.ptr k off,b,h=>by cases k<;>simp[frc] at h<;>exact h.symm
 |.mp k,b,h=>by cases k<;>simp[frc] at h<;>exact h.symm
 |.vptr k s sz i off,b,h=>by cases k<;>simp[frc] at h<;>exact h.symm
 |.rptr l,b,h=>by simp[frc] at h;exact h.symm
 |.rs sz n f,b,h=>by simp[frc] at h;exact h.symm
 |.vec k s,b,h=>by cases k<;>simp[frc] at h<;>exact h.symm
 |.fn f l l',b,h=>by simp[frc] at h;exact h.symm
 |.gd g a,b,h=>by
  simp only[frc] at h
  cases hl:frc a with
  |none=>simp[hl] at h
  |some a'=>simp[hl] at h;rw[←h,frc_eq hl]
theorem frcL_eq:∀{a b:List AV},frcL a=some b→b=a
 |[],b,h=>by simp[frcL] at h;exact h
 |a::l,b,h=>by
  simp only[frcL] at h
  cases h1:frc a with
  |none=>simp[h1] at h
  |some a'=>
   cases h2:frcL l with
   |none=>simp[h1,h2] at h
   |some l'=>simp[h1,h2] at h;rw[←h,frc_eq h1,frcL_eq h2]
end
end Go.Eng
end
section
namespace Go.Eng
def GD:Bool:=false
def GT:List (Nat×List Value):=[(0,[.int .u64 1,.int .u64 10,.int .u64 100,.int .u64 1000,.int .u64 10000,.int .u64 100000,.int .u64 1000000,.int .u64 10000000,.int .u64 100000000,.int .u64 1000000000,.int .u64 10000000000,.int .u64 100000000000,.int .u64 1000000000000,.int .u64 10000000000000,.int .u64 100000000000000,.int .u64 1000000000000000,.int .u64 10000000000000000,.int .u64 100000000000000000,.int .u64 1000000000000000000,.int .u64 10000000000000000000])]
def glF:List (Nat×List Value)→Nat→Option (List Value)
 |[],_=>none
 |(k,l)::r,g=>bif Nat.beq k g then some l else glF r g
theorem glF_mem:∀{r:List (Nat×List Value)} {g:Nat} {l:List Value},glF r g=some l→(g,l)∈r
 |(k,m)::r,g,l,h=>by
  simp only[glF] at h
  cases hb:Nat.beq k g with
  |true=>rw[hb] at h;injection h with h;subst h;rw[Nat.eq_of_beq_eq_true hb];exact List.mem_cons_self
  |false=>rw[hb] at h;exact List.mem_cons_of_mem _ (glF_mem h)
def GlIn (w:World) (G:Nat→Prop):Prop:=∀x∈GT,G x.1∧∃t fz,w.heap[x.1]?=some (.cells x.2.toArray t fz)
theorem GlIn.tr {w w':World} {G G':Nat→Prop} (h:GlIn w G) (hG:∀b,G b→G' b∧w'.heap[b]?=w.heap[b]?):GlIn w' G':=fun x hx=>
 ⟨(hG _ (h x hx).1).1,by rw[(hG _ (h x hx).1).2];exact(h x hx).2⟩
theorem GlIn.put {w w':World} {G G':Nat→Prop} (h:GlIn w G) {D:Nat} (hD:∀cs t fz,w.heap[D]?≠some (.cells cs t fz)) (hG:∀b,G b→G' b) (hw:∀b,b≠D→w'.heap[b]?=w.heap[b]?):GlIn w' G':=fun x hx=>by
 obtain⟨h1,t,fz,h2⟩:=h x hx
 exact⟨hG _ h1,t,fz,by rw[hw _ (fun e=>hD _ _ _ (e▸h2))];exact h2⟩
theorem GlIn.r {w:World} {G:Nat→Prop} (h:GlIn w G) {g:Nat} {l:List Value} (hg:glF GT g=some l) {ρ:Rho}:R w G ρ (.rptr (l.map .c)) (.pointer (some ⟨g,0,.none⟩)):=by
 obtain⟨h1,t,fz,h2⟩:=h _ (glF_mem hg)
 refine .rptr (fun i=>l.getD i undef) h1 (fun i hi=>?_) (fun i x hx=>?_)
 ·have hi':i<l.length:=by simpa using hi
  have hb:((⟨g,0,.none⟩:Addr).add i)=⟨g,i,.none⟩:=by rw[Addr.add_lit];simp
  rw[hb]
  simp[World.cell?,h2,List.getElem?_eq_getElem hi']
 ·simp only[List.getElem?_map,Option.map_eq_some_iff] at hx
  obtain⟨v,hv,rfl⟩:=hx
  simp only[List.getD_eq_getElem?_getD,hv,Option.getD_some]
  exact .c
end Go.Eng
end
section
namespace Go.Eng
def upd {α:Type} (f:Nat→α) (k:Nat) (v:α):Nat→α:=fun j=>bif Nat.beq j k then v else f j
theorem upd_same {α:Type} (f:Nat→α) (k:Nat) (v:α):upd f k v k=v:=by simp[upd]
theorem upd_other {α:Type} (f:Nat→α) {k j:Nat} (v:α) (h:j≠k):upd f k v j=f j:=by
 have:Nat.beq j k=false:=by
  cases hb:Nat.beq j k with
  |false=>rfl
  |true=>exact absurd (Nat.eq_of_beq_eq_true hb) h
 simp[upd,this]
theorem viewStore_drawn {p:Program} {w:World} {at_:Addr} {u:TypeId} {k:Addr} {v:Value} {atomic:Bool} {r:World×List Addr} (h:w.viewStore p at_ u k v atomic=.ok r):r.1.drawn=w.drawn:=by
 unfold World.viewStore at h
 simp only[bind,Except.bind,pure,Except.pure,throw,throwThe,MonadExceptOf.throw] at h
 repeat' split at h
 all_goals first
  |(cases h;done)
  |(injection h with h;subst h;rfl)
theorem ask_drawn {α:Type}:∀(q:Ask α) (w:World),w.drawn≤(w.ask q).2.drawn
 |.done a,w=>Nat.le_refl _
 |.ask what range k,w=>by
  unfold World.ask
  dsimp only
  split
  ·exact ask_drawn _ w
  ·exact Nat.le_trans (Nat.le_succ _) (ask_drawn (k _) {w with drawn:=w.drawn+1})
theorem run_drawn {α:Type} {P:Program}:∀(m:Sem α) {w w':World} {x:α},m.run P w=.ok x w'→w.drawn≤w'.drawn
 |.pure a,w,w',x,h=>by
  simp only[Sem.run] at h
  injection h with h1 h2
  rw[h2]
  exact Nat.le_refl _
 |.load m a k,w,w',x,h=>by
  simp only[Sem.run] at h
  repeat' split at h
  ·exact run_drawn _ h
  ·exact run_drawn _ h
  ·cases h
 |.store m a v k,w,w',x,h=>by
  have key:∀w1:World,w1.drawn=w.drawn→k.run P w1=.ok x w'→w.drawn≤w'.drawn:=fun w1 e h=>e▸run_drawn k h
  cases v<;>simp only[Sem.run] at h<;>repeat' split at h
  all_goals first
   |(cases h;done)
   |exact key (w.setCell a _) rfl h
   |skip
  all_goals (rename_i hf;exact key _ (by
   unfold World.farStore at hf
   split at hf
   ·split at hf
    ·injection hf with hf;subst hf;rename_i hv;exact viewStore_drawn hv
    ·cases hf
   ·cases hf) h)
 |.new o k,w,w',x,h=>run_drawn (k _) (w:={w with heap:=w.heap.push o}) h
 |.shape r k,w,w',x,h=>run_drawn (k _) h
 |.freeze a n k,w,w',x,h=>by
  have:=run_drawn k (w:=w.freeze a n) h
  refine Nat.le_trans (Nat.le_of_eq ?_) this
  unfold World.freeze
  split<;>rfl
 |.frozen a k,w,w',x,h=>run_drawn (k _) h
 |.getObj r k,w,w',x,h=>by
  simp only[Sem.run] at h
  split at h
  ·cases h
  ·exact run_drawn _ h
  ·cases h
 |.setObj r o k,w,w',x,h=>by
  simp only[Sem.run] at h
  split at h
  ·cases h
  ·exact run_drawn k (w:={w with heap:=w.heap.setIfInBounds r o}) h
  ·cases h
 |.choose q k,w,w',x,h=>by
  simp only[Sem.run] at h
  split at h
  ·exact run_drawn _ h
  ·exact Nat.le_trans (Nat.le_succ _) (run_drawn (k _) (w:={w with drawn:=w.drawn+1}) h)
 |.sys c k,w,w',x,h=>by
  have h1:=run_drawn (k (w.sys c).1) (w:=(w.sys c).2) h
  refine Nat.le_trans ?_ h1
  have h2:=ask_drawn (Kernel.perform c w.os) w
  unfold World.sys
  split
  ·exact Nat.le_refl _
  ·rename_i e;rw[e] at h2;exact h2
 |.program k,w,w',x,h=>run_drawn (k P) h
 |.mark _ k,w,w',x,h=>run_drawn k h
 |.halt h0,w,w',x,h=>by simp only[Sem.run] at h;cases h
structure Keep (M:Nat→Prop) (w w':World):Prop where
 os:w'.os=w.os
 tape:w'.tape=w.tape
 output:w'.output=w.output
 size:w.heap.size≤w'.heap.size
 block:∀k,k<w.heap.size→¬M k→w'.heap[k]?=w.heap[k]?
 drawn:GD=true→w.drawn≤w'.drawn
theorem Keep.refl (M:Nat→Prop) (w:World):Keep M w w:=⟨rfl,rfl,rfl,Nat.le_refl _,fun _ _ _=>rfl,fun _=>Nat.le_refl _⟩
theorem Keep.trans {M:Nat→Prop} {a b c:World} (h:Keep M a b) (k:Keep M b c):Keep M a c:=
 ⟨k.os.trans h.os,k.tape.trans h.tape,k.output.trans h.output,Nat.le_trans h.size k.size,fun i hi hm=>(k.block i (Nat.lt_of_lt_of_le hi h.size) hm).trans (h.block i hi hm),fun g=>Nat.le_trans (h.drawn g) (k.drawn g)⟩
theorem Keep.below {w w':World} (h:Keep (fun _=>False) w w'):Go.RowKit.Below w.heap.size w w':=⟨h.os,h.tape,h.output,h.size,fun k hk=>h.block k hk id⟩
theorem Keep.of_below {w w':World} (h:Go.RowKit.Below w.heap.size w w') (hd:w.drawn≤w'.drawn):Keep (fun _=>False) w w':=⟨h.os,h.tape,h.output,h.size,fun k hk _=>h.block k hk,fun _=>hd⟩
theorem Keep.of_below' {w w':World} (h:Go.RowKit.Below w.heap.size w w') (hd:GD=false):Keep (fun _=>False) w w':=⟨h.os,h.tape,h.output,h.size,fun k hk _=>h.block k hk,fun g=>by rw[hd] at g;cases g⟩
structure Env where
 P:Program
 w0:World
 M:Nat→Prop
 G0:Nat→Prop
 /-- how many objects were lent,and where they lay -/
 N:Nat
 r0:Rho
 /-- the round of a range over a function that the frame is,if it is one -/
 rd:Option Nat
def FW (rd:Option Nat):Fence:={fn:=fun _=>True,depth:=none,alive:=false,round:=rd}
inductive LK where
 |int (k:IntKind)
 |str
 |bool
inductive KK where
 |int (k:IntKind)
 |str
 |bool
 |leaf (ks:List LK)
def LK.has:LK→Value→Bool
 |.int k,.int k' _=>decide (k'=k)
 |.str,.string _=>true
 |.bool,.bool _=>true
 |_,_=>false
def LK.hasL:List LK→List Value→Bool
 |[],[]=>true
 |k::ks,v::vs=>k.has v&&hasL ks vs
 |_,_=>false
def KK.has:KK→Value→Bool
 |.int k,v=>LK.has (.int k) v
 |.str,v=>LK.has .str v
 |.bool,v=>LK.has .bool v
 |.leaf ks,.agg cs=>LK.hasL ks cs.toList
 |_,_=>false
theorem KK.has_ok {kk:KK} {v:Value} (h:kk.has v=true):kk.has v=true:=h
def cellSame:Value→Value→Bool
 |.int k a,.int k' b=>decide (k=k')&&(a==b)
 |.string a,.string b=>a==b
 |.bool a,.bool b=>a==b
 |_,_=>false
def cellSameL:List Value→List Value→Bool
 |[],[]=>true
 |a::l,b::l'=>cellSame a b&&cellSameL l l'
 |_,_=>false
def keyEq:Value→Value→Bool
 |.agg a,.agg b=>cellSameL a.toList b.toList
 |a,b=>cellSame a b
theorem cellSame_iff {k:LK} {u v:Value} (hu:k.has u=true) (hv:k.has v=true):cellSame u v=true↔u=v:=by
 cases k<;>cases u<;>cases v<;>simp_all [LK.has,cellSame,Go.MapKept.bytes_beq]
theorem cellSameL_iff:∀{ks:List LK} {u v:List Value},LK.hasL ks u=true→LK.hasL ks v=true→(cellSameL u v=true↔u=v)
 |[],[],[],_,_=>by simp[cellSameL]
 |[],_::_,_,h,_=>by simp[LK.hasL] at h
 |[],[],_::_,_,h=>by simp[LK.hasL] at h
 |_::_,[],_,h,_=>by simp[LK.hasL] at h
 |_::_,_::_,[],_,h=>by simp[LK.hasL] at h
 |k::ks,a::u,b::v,h,h'=>by
  simp only[LK.hasL,Bool.and_eq_true] at h h'
  simp only[cellSameL,Bool.and_eq_true,cellSame_iff h.1 h'.1,cellSameL_iff h.2 h'.2,List.cons.injEq]
theorem keyEq_iff {kk:KK} {u v:Value} (hu:kk.has u=true) (hv:kk.has v=true):keyEq u v=true↔u=v:=by
 cases kk with
 |int k=>have:=cellSame_iff (k:=.int k) hu hv;cases u<;>simp[KK.has,LK.has] at hu;simpa[keyEq] using this
 |str=>have:=cellSame_iff (k:=.str) hu hv;cases u<;>simp[KK.has,LK.has] at hu;simpa[keyEq] using this
 |bool=>have:=cellSame_iff (k:=.bool) hu hv;cases u<;>simp[KK.has,LK.has] at hu;simpa[keyEq] using this
 |leaf ks=>
  cases u<;>simp only[KK.has,Bool.false_eq_true] at hu
  cases v<;>simp only[KK.has,Bool.false_eq_true] at hv
  rename_i a b
  simp only[keyEq,cellSameL_iff hu hv,Value.agg.injEq,Array.toList_inj]
def Holds (es:List MapEntry) (v:Value) (r:Option Value):Prop:=(r=none∧∀e∈es,e.key≠v)∨∃e∈es,e.key=v∧r=some e.val
inductive Ob where
 |cells (t:TypeId) (cs:List AV)
 |vec (e sz s n:Nat) (f:Nat→List AV)
 |mapo (kk:KK) (zv:Value) (d:Value→Bool) (f:Value→AV) (sn:List (Value×Nat))
 |mapb (kk:KK) (zv:Value) (d:Value→Bool) (f:Value→AV)
 /-- a record,made of values:that of a range over a function,of its frame's temporaries -/
 |lrec (mk:Array Value→Obj) (b:Nat) (cs:List AV)
structure ST where
 fr:Nat→AV
 ob:Nat→Option Ob
 /-- the base of the names of new objects;a region's operation that writes slot d names its object nx+d -/
 nx:Nat
 /-- how many slots the frame has -/
 nt:Nat
 /-- the operations (by the slot that they write) that go the other way:arithmetic that wraps;a slice built that stays the call's own -/
 md:Nat→Bool
def Env.good (E:Env) (w:World) (ρ:Rho) (b:Nat):Prop:=(E.G0 b∨E.w0.heap.size≤b∨E.M b)∧b<w.heap.size∧∀k x,ρ k=some x→x.block≠some b
def ObOk (w:World) (G:Nat→Prop) (ρ:Rho) (k:Nat):Ob→Prop
 |.cells t cs=>∃g arr,ρ k=some (.blk g)∧w.heap[g]?=some (.cells arr t (0,0))∧arr.size=cs.length∧∀i x,cs[i]?=some x→R w G ρ x (arr.getD i undef)
 |.vec e sz s n f=>∃hv xs,ρ k=some (.hdr s hv)∧w.ownsRow 0 e sz hv n xs∧(∀i,i<n→(f i).length=sz)∧∀i j x,i<n→(f i)[j]?=some x→R w G Rho.none x (xs.getD (i*sz+j) undef)
 |.mapo kk zv d f sn=>∃g es clock,ρ k=some (.blk g)∧w.heap[g]?=some (.map es clock)∧(Go.MapKept.Stamped es clock∧∀e∈es.toList,kk.has e.key=true)∧(∀v,kk.has v=true→∃r,Holds es.toList v r∧r.isSome=d v∧R w G ρ (f v) (r.getD zv))∧∀x∈sn,∃e∈es.toList,e.key=x.1∧e.born=x.2
 |.mapb kk zv d f=>∃g es clock,ρ k=some (.blk g)∧w.heap[g]?=some (.map es clock)∧(Go.MapKept.Stamped es clock∧∀e∈es.toList,kk.has e.key=true)∧∀v,kk.has v=true→∃r,Holds es.toList v r∧r.isSome=d v∧R w G Rho.none (f v) (r.getD zv)
 |.lrec mk b cs=>∃arr,ρ k=some (.blk b)∧w.heap[b]?=some (mk arr)∧arr.size=cs.length∧∀i x,cs[i]?=some x→R w G ρ x (arr.getD i undef)
def dMark (D:Nat):Deferred:={target:=.collected D,args:=#[]}
def DfrOk (n0:Nat) (w:World) (G:Nat→Prop) (l:List Deferred):Prop:=∃df:List Nat,l=df.map dMark∧df.Nodup∧∀D∈df,n0≤D∧G D∧w.heap[D]?=some (.deferred (some []))
theorem DfrOk.nil {n0:Nat} {w:World} {G:Nat→Prop}:DfrOk n0 w G []:=⟨[],rfl,List.nodup_nil,fun _ h=>by cases h⟩
theorem DfrOk.tr {n0:Nat} {w w':World} {G G':Nat→Prop} {l:List Deferred} (h:DfrOk n0 w G l) (hG:∀b,G b→G' b∧w'.heap[b]?=w.heap[b]?):DfrOk n0 w' G' l:=by
 obtain⟨df,h1,h2,h3⟩:=h
 exact⟨df,h1,h2,fun D hD=>⟨(h3 D hD).1,(hG D (h3 D hD).2.1).1,(hG D (h3 D hD).2.1).2.trans (h3 D hD).2.2⟩⟩
structure SatR (E:Env) (st:ST) (a:Act) (w:World) (ρ:Rho):Prop where
 keep:Keep E.M E.w0 w
 tsz:a.tmps.size=st.nt
 dfr:DfrOk E.w0.heap.size w (E.good w ρ) a.defers
 gl:GlIn w (E.good w ρ)
 fr:∀k,R w (E.good w ρ) ρ (st.fr k) (a.tmps.getD k undef)
 ob:∀k o,st.ob k=some o→ObOk w (E.good w ρ) ρ k o
 no:∀k,st.ob k=none→ρ k=none
 dis:∀k k' x x' b,ρ k=some x→ρ k'=some x'→x.block=some b→x'.block=some b→k=k'
 own:∀k x b,ρ k=some x→x.block=some b→E.w0.heap.size≤b∨E.M b
 le:∀k,k<E.N→∀x,E.r0 k=some x→ρ k=some x∨∃s v s' v',x=.hdr s v∧ρ k=some (.hdr s' v')∧s<s'
def Sat (E:Env) (st:ST) (a:Act) (w:World):Prop:=∃ρ,SatR E st a w ρ
theorem ObOk.lt {w:World} {G:Nat→Prop} {ρ:Rho} {k:Nat} {o:Ob} (h:ObOk w G ρ k o) {x:RV} {b:Nat} (hx:ρ k=some x) (hb:x.block=some b):b<w.heap.size:=by
 cases o with
 |cells t cs=>
  obtain⟨g,arr,hk,hh,_⟩:=h
  rw[hx] at hk
  injection hk with hk
  subst hk
  injection hb with hb
  subst hb
  exact(Array.getElem?_eq_some_iff.1 hh).1
 |vec e sz s n f=>
  obtain⟨hv,xs,hk,hown,_⟩:=h
  rw[hx] at hk
  injection hk with hk
  subst hk
  exact(hown.lt b hb).2
 |mapo kk zv d f sn=>
  obtain⟨g,es,clock,hk,hh,_⟩:=h
  rw[hx] at hk
  injection hk with hk
  subst hk
  injection hb with hb
  subst hb
  exact(Array.getElem?_eq_some_iff.1 hh).1
 |mapb kk zv d f=>
  obtain⟨g,es,clock,hk,hh,_⟩:=h
  rw[hx] at hk
  injection hk with hk
  subst hk
  injection hb with hb
  subst hb
  exact(Array.getElem?_eq_some_iff.1 hh).1
 |lrec mk b' cs=>
  obtain⟨arr,hk,hh,_⟩:=h
  rw[hx] at hk
  injection hk with hk
  subst hk
  injection hb with hb
  subst hb
  exact(Array.getElem?_eq_some_iff.1 hh).1
theorem SatR.lt {E:Env} {st:ST} {a:Act} {w:World} {ρ:Rho} (h:SatR E st a w ρ) {k:Nat} {x:RV} {b:Nat} (hx:ρ k=some x) (hb:x.block=some b):b<w.heap.size:=by
 cases ho:st.ob k with
 |none=>rw[h.no k ho] at hx;cases hx
 |some o=>exact(h.ob k o ho).lt hx hb
theorem ObOk.trC {w w':World} {G G':Nat→Prop} {ρ ρ':Rho} {k:Nat} {o:Ob} (h:ObOk w G ρ k o) (hG:∀b,G b→G' b∧∀a v,a.block=b→w.cell? a=some v→w'.cell? a=some v) (hl:Le ρ ρ')
  (hk:ρ' k=ρ k) (hb:∀x b,ρ k=some x→x.block=some b→w'.heap[b]?=w.heap[b]?):ObOk w' G' ρ' k o:=by
 cases o with
 |cells t cs=>
  obtain⟨g,arr,hk',hh,hs,hr⟩:=h
  exact⟨g,arr,hk.trans hk',(hb _ g hk' rfl).trans hh,hs,fun i x hx=>(hr i x hx).trC hG _ hl⟩
 |vec e sz s n f=>
  obtain⟨hv,xs,hk',hown,hf,hr⟩:=h
  refine⟨hv,xs,hk.trans hk',⟨hown.1,?_⟩,hf,fun i j x hi hx=>(hr i j x hi hx).trC hG _ (Le.refl _)⟩
  rcases hown.2 with hn|⟨g,cap,cur,rfl,h0,hh,rest⟩
  ·exact .inl hn
  ·exact .inr ⟨g,cap,cur,rfl,h0,(hb _ g hk' rfl).trans hh,rest⟩
 |mapo kk zv d f sn=>
  obtain⟨g,es,clock,hk',hh,hs,hr,hsn⟩:=h
  exact⟨g,es,clock,hk.trans hk',(hb _ g hk' rfl).trans hh,hs,(fun z hz=>by
   obtain⟨r,h1,h2,h3⟩:=hr z hz
   exact⟨r,h1,h2,h3.trC hG _ hl⟩),hsn⟩
 |mapb kk zv d f=>
  obtain⟨g,es,clock,hk',hh,hs,hr⟩:=h
  exact⟨g,es,clock,hk.trans hk',(hb _ g hk' rfl).trans hh,hs,fun z hz=>by
   obtain⟨r,h1,h2,h3⟩:=hr z hz
   exact⟨r,h1,h2,h3.trC hG _ (Le.refl _)⟩⟩
 |lrec mk b cs=>
  obtain⟨arr,hk',hh,hs,hr⟩:=h
  exact⟨arr,hk.trans hk',(hb _ b hk' rfl).trans hh,hs,fun i x hx=>(hr i x hx).trC hG _ hl⟩
theorem ObOk.tr {w w':World} {G G':Nat→Prop} {ρ ρ':Rho} {k:Nat} {o:Ob} (h:ObOk w G ρ k o) (hG:∀b,G b→G' b∧w'.heap[b]?=w.heap[b]?) (hl:Le ρ ρ')
  (hk:ρ' k=ρ k) (hb:∀x b,ρ k=some x→x.block=some b→w'.heap[b]?=w.heap[b]?):ObOk w' G' ρ' k o:=
 h.trC (fun b hb=>⟨(hG b hb).1,fun a v ha hc=>by rw[World.cell?_of_block (w:=w)];exact hc;rw[ha];exact(hG b hb).2⟩) hl hk hb
theorem SatR.leaves {E:Env} {st:ST} {fn:Func} {P:Program} {Rr:Ending→World→Prop} {ρ:Rho} {t:Array Value}:∀(df:List Nat) {w:World},SatR E st {tmps:=t,defers:=df.map dMark} w ρ→
  (∀w',SatR E st {tmps:=t,defers:=[]} w' ρ→∃v,(results fn t).run P w'=.ok v w'∧Rr (.returned v) w')→LeavesInM Fence.wide 0 P fn t Rr (df.map dMark) .returning w
 |[],w,h,fin=>fin w h
 |D::df,w,h,fin=>by
  obtain⟨df',h1,h2,h3⟩:=h.dfr
  have hinj:∀a b:List Nat,a.map dMark=b.map dMark→a=b:=by
   intro a
   induction a with
   |nil=>intro b hb;cases b with
    |nil=>rfl
    |cons y b=>cases hb
   |cons x a ih=>intro b hb;cases b with
    |nil=>cases hb
    |cons y b=>
     simp only[List.map_cons,List.cons.injEq,dMark,Deferred.mk.injEq,Target.collected.injEq,and_true] at hb
     rw[hb.1,ih b hb.2]
  obtain rfl:=hinj _ _ h1
  obtain⟨g1,g2,g3⟩:=h3 D List.mem_cons_self
  have hne:∀D'∈df,D'≠D:=fun D' hD' e=>by subst e;exact(List.nodup_cons.1 h2).1 hD'
  have hcell:∀a v,w.cell? a=some v→(w.putObj D (.deferred none)).cell? a=some v:=by
   intro a v hc
   by_cases e:a.block=D
   ·subst e
    simp[World.cell?,g3] at hc
   ·rw[World.cell?_of_block (w:=w)]
    ·exact hc
    ·exact World.putObj_heap_other e
  have hgood:∀b,E.good w ρ b→E.good (w.putObj D (.deferred none)) ρ b:=fun b ⟨q1,q2,q3⟩=>⟨q1,by simpa using q2,q3⟩
  have hG:∀b,E.good w ρ b→E.good (w.putObj D (.deferred none)) ρ b∧∀a v,a.block=b→w.cell? a=some v→(w.putObj D (.deferred none)).cell? a=some v:=fun b hb=>⟨hgood b hb,fun a v _ hc=>hcell a v hc⟩
  refine⟨by simp,.inl ⟨D,_,rfl,run_takeDeferred g3,SatR.leaves df ?_ fin⟩⟩
  refine⟨?_,h.tsz,⟨df,rfl,(List.nodup_cons.1 h2).2,fun D' hD'=>⟨(h3 D' (List.mem_cons_of_mem _ hD')).1,hgood _ (h3 D' (List.mem_cons_of_mem _ hD')).2.1,(World.putObj_heap_other (hne D' hD')).trans (h3 D' (List.mem_cons_of_mem _ hD')).2.2⟩⟩,h.gl.put (fun cs t fz e=>by rw[g3] at e;cases e) hgood (fun b hb=>World.putObj_heap_other hb),
   fun k=>(h.fr k).trC hG _ (Le.refl _),fun k o ho=>(h.ob k o ho).trC hG (Le.refl _) rfl fun x b hx hb=>World.putObj_heap_other (fun e=>g2.2.2 k x hx (by rw[hb,e])),h.no,h.dis,h.own,h.le⟩
  exact⟨h.keep.os,h.keep.tape,h.keep.output,Nat.le_trans h.keep.size (by simp),fun b hb hm=>(World.putObj_heap_other (by omega)).trans (h.keep.block b hb hm),h.keep.drawn⟩
section
variable {E:Env} {st:ST} {a:Act} {w:World} {ρ:Rho}
theorem SatR.put (h:SatR E st a w ρ) {d:Nat} {x:AV} {v:Value} (hd:d<st.nt) (hr:R w (E.good w ρ) ρ x v):SatR E {st with fr:=upd st.fr d x} (a.put (some d) v) w ρ:=by
 refine⟨h.keep,by simpa[Act.put] using h.tsz,h.dfr,h.gl,fun k=>?_,h.ob,h.no,h.dis,h.own,h.le⟩
 by_cases hk:k=d
 ·subst hk
  have hlt:k<a.tmps.size:=h.tsz▸hd
  simpa[upd_same,Act.put,hlt] using hr
 ·simp only[upd_other _ _ hk,Act.put]
  have h1:=h.fr k
  simpa[Array.getElem?_setIfInBounds_ne (Ne.symm hk)] using h1
theorem SatR.turn (h:SatR E st a w ρ) {w':World} {k:Nat} {o:Ob} {x:RV}
  (hold:ρ k=none∨ρ k=some x∨∃s v s' v',ρ k=some (.hdr s v)∧x=.hdr s' v'∧s<s')
  (hw:w.grownBy w' ((ρ k).bind RV.block)) (hd:w.drawn≤w'.drawn) (hb:∀b,x.block=some b→(ρ k).bind RV.block=some b∨w.heap.size≤b)
  (hob:(∀b,E.good w ρ b→E.good w' (upd ρ k (some x)) b∧w'.heap[b]?=w.heap[b]?)→Le ρ (upd ρ k (some x))→ObOk w' (E.good w' (upd ρ k (some x))) (upd ρ k (some x)) k o):
  SatR E {st with ob:=upd st.ob k (some o)} a w' (upd ρ k (some x)):=by
 have hG:∀b,E.good w ρ b→E.good w' (upd ρ k (some x)) b∧w'.heap[b]?=w.heap[b]?:=by
  intro b ⟨h0,hlt,hno⟩
  refine⟨⟨h0,Nat.lt_of_lt_of_le hlt hw.size,fun j y hj hy=>?_⟩,hw.block b hlt fun e=>?_⟩
  ·by_cases hjk:j=k
   ·subst hjk
    rw[upd_same] at hj
    injection hj with hj
    subst hj
    rcases hb b hy with h1|h1
    ·cases hr:ρ j with
     |none=>simp[hr] at h1
     |some z=>rw[hr] at h1;exact hno j z hr h1
    ·omega
   ·rw[upd_other _ _ hjk] at hj
    exact hno j y hj hy
  ·cases hr:ρ k with
   |none=>simp[hr] at e
   |some z=>rw[hr] at e;exact hno k z hr e.symm
 have hl:Le ρ (upd ρ k (some x)):=by
  intro j y hj
  by_cases hjk:j=k
  ·subst hjk
   rw[upd_same]
   rcases hold with h1|h1|⟨s,v,s',v',h1,h2,h3⟩
   ·rw[h1] at hj;cases hj
   ·rw[h1] at hj;injection hj with hj;subst hj;exact .inl rfl
   ·rw[h1] at hj;injection hj with hj;exact .inr ⟨s,v,s',v',hj.symm,by rw[h2],h3⟩
  ·rw[upd_other _ _ hjk];exact .inl hj
 refine⟨?_,h.tsz,h.dfr.tr hG,h.gl.tr hG,fun j=>(h.fr j).tr hG _ hl,fun j o' hj=>?_,fun j hj=>?_,fun j j' y y' b hj hj' hy hy'=>?_,fun j y b hj hy=>?_,fun j hj y hy=>?_⟩
 ·refine⟨hw.os.trans h.keep.os,hw.tape.trans h.keep.tape,hw.output.trans h.keep.output,Nat.le_trans h.keep.size hw.size,fun b hlt hm=>?_,fun g=>Nat.le_trans (h.keep.drawn g) hd⟩
  rw[hw.block b (Nat.lt_of_lt_of_le hlt h.keep.size) ?_]
  ·exact h.keep.block b hlt hm
  ·intro e
   cases hr:ρ k with
   |none=>simp[hr] at e
   |some z=>
    rw[hr] at e
    rcases h.own k z b hr e.symm with h1|h1
    ·omega
    ·exact hm h1
 ·by_cases hjk:j=k
  ·subst hjk
   simp only[upd_same] at hj
   injection hj with hj
   subst hj
   exact hob hG hl
  ·simp only[upd_other _ _ hjk] at hj
   refine(h.ob j o' hj).tr hG hl (upd_other _ _ hjk) fun y b hy hyb=>hw.block b (h.lt hy hyb) fun e=>?_
   cases hr:ρ k with
   |none=>simp[hr] at e
   |some z=>rw[hr] at e;exact hjk (h.dis j k y z b hy hr hyb e.symm)
 ·by_cases hjk:j=k
  ·subst hjk;simp only[upd_same] at hj;cases hj
  ·simp only[upd_other _ _ hjk] at hj ⊢;exact h.no j hj
 ·have other:∀i y,i≠k→ρ i=some y→y.block=some b→x.block=some b→False:=by
   intro i y hi hy hyb hxb
   rcases hb b hxb with h1|h1
   ·cases hr:ρ k with
    |none=>simp[hr] at h1
    |some z=>rw[hr] at h1;exact hi (h.dis i k y z b hy hr hyb h1)
   ·have:=h.lt hy hyb;omega
  by_cases h1:j=k<;>by_cases h2:j'=k
  ·rw[h1,h2]
  ·subst h1
   rw[upd_same] at hj
   injection hj with hj
   subst hj
   rw[upd_other _ _ h2] at hj'
   exact(other j' y' h2 hj' hy' hy).elim
  ·subst h2
   rw[upd_same] at hj'
   injection hj' with hj'
   subst hj'
   rw[upd_other _ _ h1] at hj
   exact(other j y h1 hj hy hy').elim
  ·rw[upd_other _ _ h1] at hj
   rw[upd_other _ _ h2] at hj'
   exact h.dis j j' y y' b hj hj' hy hy'
 ·by_cases h1:j=k
  ·subst h1
   rw[upd_same] at hj
   injection hj with hj
   subst hj
   rcases hb b hy with h2|h2
   ·cases hr:ρ j with
    |none=>simp[hr] at h2
    |some z=>rw[hr] at h2;exact h.own j z b hr h2
   ·exact .inl (Nat.le_trans h.keep.size h2)
  ·rw[upd_other _ _ h1] at hj
   exact h.own j y b hj hy
 ·rcases h.le j hj y hy with h1|⟨s,v,s',v',h1,h2,h3⟩
  ·exact hl j y h1
  ·rcases hl j _ h2 with h4|⟨s1,v1,s2,v2,h4,h5,h6⟩
   ·exact .inr ⟨s,v,s',v',h1,h4,h3⟩
   ·injection h4 with h4 h7
    exact .inr ⟨s,v,s2,v2,h1,h5,by omega⟩
theorem SatR.alloc (h:SatR E st a w ρ) {k:Nat} {t:TypeId} {cs:List AV} {arr:Array Value} (hk:st.ob k=none) (hs:arr.size=cs.length)
  (hr:∀i x,cs[i]?=some x→R w (E.good w ρ) ρ x (arr.getD i undef)):
  SatR E {st with ob:=upd st.ob k (some (.cells t cs))} a (w.alloc (.cells arr t)) (upd ρ k (some (.blk w.heap.size))):=by
 have hn:=h.no k hk
 refine h.turn (.inl hn) (by rw[hn];exact World.grownBy_alloc w _ none) (Nat.le_refl _) (fun b hb=>?_) fun hG hl=>?_
 ·injection hb with hb;subst hb;exact .inr (Nat.le_refl _)
 ·exact⟨w.heap.size,arr,upd_same _ _ _,heap_alloc_new w _,hs,fun i x hx=>(hr i x hx).tr hG _ hl⟩
theorem SatR.allocRow (h:SatR E st a w ρ) {k:Nat} {e sz n cap:Nat} {f:Nat→List AV} {arr:Array Value} (hk:st.ob k=none) (hcap:n≤cap) (hm:cap≤maxLen) (hs:arr.size=cap*sz)
  (hf:∀i,i<n→(f i).length=sz) (hr:∀i j x,i<n→(f i)[j]?=some x→R w (E.good w ρ) Rho.none x (arr.getD (i*sz+j) undef)):
  SatR E {st with ob:=upd st.ob k (some (.vec e sz 0 n f))} a (w.alloc (.cells arr e)) (upd ρ k (some (.hdr 0 (.slice (some ⟨w.heap.size,0,none⟩) n cap)))):=by
 have hn:=h.no k hk
 refine h.turn (.inl hn) (by rw[hn];exact World.grownBy_alloc w _ none) (Nat.le_refl _) (fun b hb=>?_) fun hG hl=>?_
 ·simp[RV.block,Value.ownBlock] at hb;subst hb;exact .inr (Nat.le_refl _)
 ·refine⟨_,arr.toList.take (n*sz),upd_same _ _ _,⟨?_,.inr ⟨w.heap.size,cap,arr,rfl,Nat.zero_le _,heap_alloc_new w _,hcap,hm,hs,rfl⟩⟩,hf,fun i j x hi hx=>?_⟩
  ·have:=Nat.mul_le_mul_right sz hcap
   simp only[List.length_take,Array.length_toList,hs];omega
  ·have hj:j<sz:=by
    have:=(List.getElem?_eq_some_iff.1 hx).1
    rw[hf i hi] at this;exact this
   have hij:i*sz+j<n*sz:=by
    have:(i+1)*sz≤n*sz:=Nat.mul_le_mul_right sz hi
    rw[Nat.add_mul] at this;omega
   have:=(hr i j x hi hx).tr hG _ (Le.refl _)
   simpa[List.getD,List.getElem?_take,hij] using this
theorem SatR.called (h:SatR E st a w ρ) {w':World} (hw:Keep (fun _=>False) w w'):SatR E st a w' ρ:=by
 have hG:∀b,E.good w ρ b→E.good w' ρ b∧w'.heap[b]?=w.heap[b]?:=fun b ⟨h0,hlt,hno⟩=>⟨⟨h0,Nat.lt_of_lt_of_le hlt hw.size,hno⟩,hw.block b hlt id⟩
 refine⟨?_,h.tsz,h.dfr.tr hG,h.gl.tr hG,fun j=>(h.fr j).tr hG _ (Le.refl _),fun j o hj=>(h.ob j o hj).tr hG (Le.refl _) rfl fun y b hy hyb=>hw.block b (h.lt hy hyb) id,h.no,h.dis,h.own,h.le⟩
 exact h.keep.trans ⟨hw.os,hw.tape,hw.output,hw.size,fun b hb _=>hw.block b hb id,hw.drawn⟩
theorem SatR.drew (h:SatR E st a w ρ):SatR E st a w.drew ρ:=h.called ⟨rfl,rfl,rfl,Nat.le_refl _,fun _ _ _=>rfl,fun _=>Nat.le_succ _⟩
theorem SatR.write (h:SatR E st a w ρ) {k:Nat} {t:TypeId} {cs cs':List AV} (hk:st.ob k=some (.cells t cs)) (hlen:cs'.length=cs.length) {w':World}
  (hw:∀g arr,ρ k=some (.blk g)→w.heap[g]?=some (.cells arr t (0,0))→arr.size=cs.length→(∀i x,cs[i]?=some x→R w (E.good w ρ) ρ x (arr.getD i undef))→
   ∃arr':Array Value,w'=w.setRow g arr'∧arr'.size=arr.size∧∀i x,cs'[i]?=some x→R w (E.good w ρ) ρ x (arr'.getD i undef)):
  SatR E {st with ob:=upd st.ob k (some (.cells t cs'))} a w' ρ:=by
 obtain⟨g,arr,hg,hh,hs,hr⟩:=h.ob k _ hk
 obtain⟨arr',rfl,hs',hr'⟩:=hw g arr hg hh hs hr
 have hu:upd ρ k (some (.blk g))=ρ:=by
  funext j
  by_cases hj:j=k
  ·subst hj;rw[upd_same,hg]
  ·rw[upd_other _ _ hj]
 have:=h.turn (k:=k) (x:=.blk g) (o:=.cells t cs') (w':=w.setRow g arr') (.inr (.inl hg))
  ⟨rfl,rfl,rfl,by simp,fun b _ hb=>setRow_other w g b _ fun e=>hb (by rw[hg,e];rfl)⟩ (Nat.le_refl _) (fun b hb=>.inl (by rw[hg];exact hb)) fun hG hl=>by
   rw[hu] at hG hl ⊢
   exact⟨g,arr',hg,setRow_heap w g arr arr' t (0,0) hh,by omega,fun i x hx=>(hr' i x hx).tr hG _ hl⟩
 rwa[hu] at this
theorem SatR.writeRow (h:SatR E st a w ρ) {k:Nat} {e sz s n:Nat} {f f':Nat→List AV} (hk:st.ob k=some (.vec e sz s n f)) (hf':∀i,i<n→(f' i).length=sz) {w':World}
  (hw:∀g cap cur,ρ k=some (.hdr s (.slice (some ⟨g,0,none⟩) n cap))→w.heap[g]?=some (.cells cur e (0,0))→n≤cap→cur.size=cap*sz→
   (∀i j x,i<n→(f i)[j]?=some x→R w (E.good w ρ) Rho.none x (cur.getD (i*sz+j) undef))→
   ∃cur':Array Value,w'=w.setRow g cur'∧cur'.size=cur.size∧∀i j x,i<n→(f' i)[j]?=some x→R w (E.good w ρ) Rho.none x (cur'.getD (i*sz+j) undef))
  (h0:0<n):
  SatR E {st with ob:=upd st.ob k (some (.vec e sz s n f'))} a w' ρ:=by
 obtain⟨hv,xs,hg,hown,hf,hr⟩:=h.ob k _ hk
 rcases hown with⟨hxl,⟨_,rfl⟩|⟨g,cap,cur,rfl,_,hh,hnc,hm,hs,htake⟩⟩
 ·omega
 have hcur:∀i j x,i<n→(f i)[j]?=some x→R w (E.good w ρ) Rho.none x (cur.getD (i*sz+j) undef):=by
  intro i j x hi hx
  have hj:j<sz:=by
   have:=(List.getElem?_eq_some_iff.1 hx).1
   rw[hf i hi] at this;exact this
  have hij:i*sz+j<n*sz:=by
   have:(i+1)*sz≤n*sz:=Nat.mul_le_mul_right sz hi
   rw[Nat.add_mul] at this;omega
  have:=hr i j x hi hx
  rw[←htake] at this
  simpa[List.getD,List.getElem?_take,hij] using this
 obtain⟨cur',rfl,hs',hr'⟩:=hw g cap cur hg hh hnc hs hcur
 have hu:upd ρ k (some (.hdr s (.slice (some ⟨g,0,none⟩) n cap)))=ρ:=by
  funext j
  by_cases hj:j=k
  ·subst hj;rw[upd_same,hg]
  ·rw[upd_other _ _ hj]
 have:=h.turn (k:=k) (x:=.hdr s (.slice (some ⟨g,0,none⟩) n cap)) (o:=.vec e sz s n f') (w':=w.setRow g cur') (.inr (.inl hg))
  ⟨rfl,rfl,rfl,by simp,fun b _ hb=>setRow_other w g b _ fun e=>hb (by rw[hg,e];rfl)⟩ (Nat.le_refl _) (fun b hb=>.inl (by rw[hg];exact hb)) fun hG hl=>by
   rw[hu] at hG hl ⊢
   refine⟨_,cur'.toList.take (n*sz),hg,⟨?_,.inr ⟨g,cap,cur',rfl,Nat.zero_le _,setRow_heap w g cur cur' e (0,0) hh,hnc,hm,by omega,rfl⟩⟩,hf',fun i j x hi hx=>?_⟩
   ·have:=Nat.mul_le_mul_right sz hnc
    simp only[List.length_take,Array.length_toList,hs',hs];omega
   ·have hj:j<sz:=by
     have:=(List.getElem?_eq_some_iff.1 hx).1
     rw[hf' i hi] at this;exact this
    have hij:i*sz+j<n*sz:=by
     have:(i+1)*sz≤n*sz:=Nat.mul_le_mul_right sz hi
     rw[Nat.add_mul] at this;omega
    have:=(hr' i j x hi hx).tr hG _ (Le.refl _)
    simpa[List.getD,List.getElem?_take,hij] using this
 rwa[hu] at this
theorem SatR.grow (h:SatR E st a w ρ) {k:Nat} {e sz s n n':Nat} {f f':Nat→List AV} (_hk:st.ob k=some (.vec e sz s n f)) (hf':∀i,i<n'→(f' i).length=sz) {w':World} {v':Value} {hv:Value} {xs':List Value}
  (hg:ρ k=some (.hdr s hv)) (hown:w'.ownsRow 0 e sz v' n' xs') (hw:w.grownBy w' hv.ownBlock) (hd:w.drawn≤w'.drawn) (hb:v'.ownBlock=hv.ownBlock∨∀b,v'.ownBlock=some b→w.heap.size≤b)
  (hr:∀i j x,i<n'→(f' i)[j]?=some x→R w (E.good w ρ) Rho.none x (xs'.getD (i*sz+j) undef)):
  SatR E {st with ob:=upd st.ob k (some (.vec e sz (s+1) n' f'))} a w' (upd ρ k (some (.hdr (s+1) v'))):=by
 refine h.turn (.inr (.inr ⟨s,hv,s+1,v',hg,rfl,Nat.lt_succ_self s⟩)) (by rw[hg];exact hw) hd (fun b hb'=>?_) fun hG hl=>?_
 ·rw[hg]
  rcases hb with h1|h1
  ·exact .inl (h1.symm.trans hb')
  ·exact .inr (h1 b hb')
 ·exact⟨v',xs',upd_same _ _ _,hown,hf',fun i j x hi hx=>(hr i j x hi hx).tr hG _ (Le.refl _)⟩
theorem SatR.cut (h:SatR E st a w ρ) {st':ST} (p:Nat→Bool) (hnt:st'.nt=st.nt)
  (hfr:∀k,st'.fr k=.junk∨(st'.fr k=st.fr k∧(st.fr k).ks p=true))
  (hob:∀k o,st'.ob k=some o→p k=true) (hnp:∀k,st'.ob k=none→p k=false)
  (hobs:∀k o,st'.ob k=some o→(∃t cs,o=.cells t cs∧st.ob k=some o∧AV.ksL p cs=true)∨
   (∃e sz s n f f',o=.vec e sz s n f'∧st.ob k=some (.vec e sz s n f)∧∀i,i<n→f' i=f i)∨∃o1,st.ob k=some o1∧(∀w G ρ,ObOk w G ρ k o1→ObOk w G ρ k o)∧((∃kk zv d f,o=.mapb kk zv d f)∨∃mk b cs,o=.lrec mk b cs∧o1=o∧AV.ksL p cs=true)) (hN:∀k,k<E.N→p k=true):
  SatR E st' a w (fun k=>if p k then ρ k else none):=by
 have hG:∀b,E.good w ρ b→E.good w (fun k=>if p k then ρ k else none) b∧w.heap[b]?=w.heap[b]?:=fun b ⟨h0,hlt,hno⟩=>
  ⟨⟨h0,hlt,fun j y hj hy=>by
    cases hp:p j
    ·simp[hp] at hj
    ·simp[hp] at hj;exact hno j y hj hy⟩,rfl⟩
 have mv:∀{x v},R w (E.good w ρ) ρ x v→x.ks p=true→R w (E.good w (fun k=>if p k then ρ k else none)) (fun k=>if p k then ρ k else none) x v:=
  fun hx hks=>(hx.tr hG _ (Le.refl _)).cut p _ (fun k hk=>by simp[hk]) hks
 refine⟨h.keep,hnt▸h.tsz,h.dfr.tr hG,h.gl.tr hG,fun k=>?_,fun k o ho=>?_,fun k hk=>?_,fun j j' y y' b hj hj'=>?_,fun j y b hj=>?_,fun j hj y hy=>by simpa[hN j hj] using h.le j hj y hy⟩
 ·rcases hfr k with h1|⟨h1,h2⟩
  ·rw[h1];exact .junk
  ·rw[h1];exact mv (h.fr k) h2
 ·have hp:=hob k o ho
  rcases hobs k o ho with⟨t,cs,rfl,h1,h2⟩|⟨e,sz,s,n,f,f',rfl,h1,h2⟩|⟨o1,h1,h2,⟨kk,zv,d,f,rfl⟩|⟨mk,b,cs,rfl,rfl,h3⟩⟩
  ·obtain⟨g,arr,hk',hh,hs,hr⟩:=h.ob k _ h1
   exact⟨g,arr,by simp[hp,hk'],hh,hs,fun i x hx=>mv (hr i x hx) (AV.ksL_at h2 hx)⟩
  ·obtain⟨hv,xs,hk',hown,hf,hr⟩:=h.ob k _ h1
   exact⟨hv,xs,by simp[hp,hk'],hown,fun i hi=>by rw[h2 i hi];exact hf i hi,fun i j x hi hx=>((hr i j x hi (by rw[←h2 i hi];exact hx)).tr hG _ (Le.refl _))⟩
  ·obtain⟨g,es,clock,hk',hh,hs,hr⟩:=h2 _ _ _ (h.ob k _ h1)
   exact⟨g,es,clock,by simp[hp,hk'],hh,hs,fun z hz=>by
    obtain⟨r,h1,h2,h3⟩:=hr z hz
    exact⟨r,h1,h2,h3.tr hG _ (Le.refl _)⟩⟩
  ·obtain⟨arr,hk',hh,hs,hr⟩:=h.ob k _ h1
   exact⟨arr,by simp[hp,hk'],hh,hs,fun i x hx=>mv (hr i x hx) (AV.ksL_at h3 hx)⟩
 ·simp[hnp k hk]
 ·cases hp:p j<;>cases hp':p j'<;>simp[hp,hp'] at hj hj' ⊢
  exact h.dis j j' y y' b hj hj'
 ·cases hp:p j<;>simp[hp] at hj ⊢
  exact h.own j y b hj
end
end Go.Eng
end
