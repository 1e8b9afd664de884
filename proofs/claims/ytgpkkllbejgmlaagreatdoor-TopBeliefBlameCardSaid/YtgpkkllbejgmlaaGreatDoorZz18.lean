import Derived.Test.YtgpkkllbejgmlaaGreatDoorZz14
import Derived.Test.YtgpkkllbejgmlaaGreatDoorZz17
set_option linter.unusedSimpArgs false
set_option linter.unusedVariables false
set_option maxRecDepth 10000
namespace Go.Proofs.YtgpkkllbejgmlaaGreatDoor
section
open Go.Eng
def outS (k:K) (w:Wk):St:=⟨w.day,(List.range k.holders.length).map w.hold,(List.range k.acts.length).map w.used,(List.range k.clauses.length).map w.mark⟩
def zS:St:=⟨0,[],[],[]⟩
noncomputable def stepS (k:K) (s:St) (t:Int):St×Int:=if(!validS k s||decide (t< -1)||decide ((k.acts.length:Int)≤t))=true then(zS,1) else if s.day=k.days then(zS,13) else(outS k (stepW k s.wk t),0)
def sr (r:St×Int):AV:=.tup [stV r.1,.c (.int .i64 r.2)]
def nilS:AV:=.agg [.c (.int .i64 0),.c (.slice none 0 0),.c (.slice none 0 0),.c (.slice none 0 0)]
def rawS (k:K) (w:Wk):AV:=.agg [.c (.int .i64 w.day),.rs 1 k.holders.length (fun i=>[.c (.int .i64 (w.hold i))]),.rs 1 k.acts.length (fun i=>[.c (.bool (w.used i))]),.rs 5 k.clauses.length (fun i=>mkC (w.mark i))]
theorem map_getD {β:Type} [Inhabited β] (f:Nat→β) {n i:Nat} (h:i<n):((List.range n).map f).getD i default=f i:=by
 simp[List.getD,h]
theorem AvS.tup {l l':List AV} (h:AvSL l l'):AvS (.tup l) (.tup l'):=by
 intro w G ρ v hr
 obtain⟨h1,h2⟩:=h.at_
 obtain⟨cs,rfl,hs,hc⟩:∃cs,v=.tuple cs∧cs.size=l.length∧∀i a,l[i]?=some a→R w G ρ a (cs.getD i undef):=by
  cases hr with
  |tup hs hc=>exact⟨_,rfl,hs,hc⟩
 refine .tup (by omega) fun i y hy=>?_
 obtain⟨x,hx,hxy⟩:=h2 i y hy
 exact hxy _ _ _ _ (hc i x hx)
theorem outS_is (k:K) (w:Wk):AvS (.tup [rawS k w,.c (.int .i64 0)]) (.tup [stV (outS k w),.c (.int .i64 0)]):=by
 have rs {sz n m:Nat} {f g:Nat→List AV} (h:m=n) (h2:∀i,i<n→f i=g i):AvS (.rs sz n f) (.rs sz m g):=by
  subst h
  exact AvS.rs fun i hi=>by rw[h2 i hi];exact AvSL.refl _
 refine AvS.tup ⟨AvS.agg ⟨AvS.refl _,rs (by simp[outS]) fun i hi=>?_,rs (by simp[outS]) fun i hi=>?_,rs (by simp[outS]) fun i hi=>?_,trivial⟩,AvS.refl _,trivial⟩
 ·show _=iC (((List.range k.holders.length).map w.hold).getD i default)
  rw[map_getD _ hi];rfl
 ·show _=bC (((List.range k.acts.length).map w.used).getD i default)
  rw[map_getD _ hi];rfl
 ·show _=mkC (((List.range k.clauses.length).map w.mark).getD i default)
  rw[map_getD _ hi]
theorem stepErr_ok (k:K) (hk:kW k) (s:St) (t:Int) (h:(!validS k s||decide (t< -1)||decide ((k.acts.length:Int)≤t))=true):Does Tryz.prog 16 [kV k,stV s,.c (.int .i64 t)] (.tup [nilS,.c (.int .i64 1)]):=by
 refine Does.mk (fun _=>false) TT_ok Tryz.func16 rfl (by kernel_rfl) Tryz.ntmps16 rfl rfl fun E hT hE hN hR=>?_
 have hm:=mixO hE
 refine XK.r ?_
 refine XL.callLA hE rfl rfl rfl rfl trivial rfl (validS_ok k hk s) rfl ?_
 refine XL.e ?_
 refine XK.c ?_ ?_<;>intro h1
 ·refine XK.w ?_
  refine XK.q ?_
  rfl
 ·have h1:(!validS k s||decide (t< -1)||decide ((k.acts.length:Int)≤t))=false:=h1
  rw[h] at h1
  cases h1
theorem stepEnd_ok (k:K) (hk:kW k) (s:St) (t:Int) (h:(!validS k s||decide (t< -1)||decide ((k.acts.length:Int)≤t))=false) (hd:s.day=k.days):Does Tryz.prog 16 [kV k,stV s,.c (.int .i64 t)] (.tup [nilS,.c (.int .i64 13)]):=by
 refine Does.mk (fun _=>false) TT_ok Tryz.func16 rfl (by kernel_rfl) Tryz.ntmps16 rfl rfl fun E hT hE hN hR=>?_
 have hm:=mixO hE
 refine XK.r ?_
 refine XL.callLA hE rfl rfl rfl rfl trivial rfl (validS_ok k hk s) rfl ?_
 refine XL.e ?_
 refine XK.c ?_ ?_<;>intro h1
 ·have h1:(!validS k s||decide (t< -1)||decide ((k.acts.length:Int)≤t))=true:=h1
  rw[h] at h1
  cases h1
 ·refine XK.c ?_ ?_<;>intro h2<;>try simp at h2
  ·refine XK.w ?_
   refine XK.q ?_
   rfl
  ·exact absurd hd h2
theorem validS_W {k:K} {s:St} (h:validS k s=true):WOk k s.wk:=by
 obtain⟨h1,h2,h3,h4,h5,h6,h7,h8⟩:=validS_len h
 refine⟨h5,fun i hi=>h6 i (by omega),fun i hi hu=>?_,fun i hi=>?_,fun i hi=>?_⟩
 ·have:=h7 i (by omega)
  have hu:s.used.getD i default=true:=hu
  rw[hu] at this
  simpa using this
 ·have:=h8 i (by omega)
  simp only[Bool.and_eq_true] at this
  exact this.1
 ·have:=h8 i (by omega)
  simp only[Bool.and_eq_true,Bool.not_eq_true'] at this
  exact this.2
theorem stepGo_ok (k:K) (hk:kW k) (s:St) (t:Int) (h:(!validS k s||decide (t< -1)||decide ((k.acts.length:Int)≤t))=false) (hd:s.day≠k.days):Does Tryz.prog 16 [kV k,stV s,.c (.int .i64 t)] (.tup [rawS k (stepW k s.wk t),.c (.int .i64 0)]):=by
 refine Does.mk (fun _=>false) TT_ok Tryz.func16 rfl (by kernel_rfl) Tryz.ntmps16 rfl rfl fun E hT hE hN hR=>?_
 have hm:=mixO hE
 have h':=h
 simp only[Bool.or_eq_false_iff,Bool.not_eq_false',decide_eq_false_iff_not] at h'
 obtain⟨⟨hv,ht1⟩,ht2⟩:=h'
 have hl:=validS_len hv
 have hF:=(show kOk k from⟨hk,hl.1⟩).facts
 have hW:=validS_W hv
 refine XK.r ?_
 refine XL.callLA hE rfl rfl rfl rfl trivial rfl (validS_ok k hk s) rfl ?_
 refine XL.e ?_
 refine XK.c ?_ ?_<;>intro h1
 ·have h1:(!validS k s||decide (t< -1)||decide ((k.acts.length:Int)≤t))=true:=h1
  rw[h] at h1
  cases h1
 ·refine XK.c ?_ ?_<;>intro h2<;>try simp at h2
  ·exact absurd h2 hd
  ·obtain⟨l1,l2,l3,l4,l5,-⟩:=hl
   have b1:=hF.nh
   have b2:=hF.na
   have b3:=hF.nc
   refine XK.w ?_
   refine XK.weak (Weak.of (L:=[(2,.c (.int .i64 t)),(6,.ptr 6 0),(7,.c (.int .i64 0)),(8,.ptr 300 0),(74,.c (.bool (t==-1)))]) (O:=(6,.cells 44 [.c (.int .i64 0),.c (.slice none 0 0),.c (.slice none 0 0),.c (.slice none 0 0)])::(300,wO k s.wk 289 293 297)::(289,wHold k s.wk)::(293,wUsed k s.wk)::(297,wMark k s.wk)::[]) (nx:=1000) (nt:=84) (md:=fun _=>false) hN rfl rfl rfl frI ⟨frI,frI,⟨⟨rfl,rfl,rfl⟩,l2,fun i hi=>(cpF_lt (m:=s.holders.length) (f:=fun i=>[.c (.int .i64 (s.holders.getD i default))]) hi).symm⟩,⟨⟨rfl,rfl,rfl⟩,l3,fun i hi=>(cpF_lt (m:=s.used.length) (f:=fun i=>[.c (.bool (s.used.getD i default))]) hi).symm⟩,⟨⟨rfl,rfl,rfl⟩,l4,fun i hi=>(cpF_lt (m:=s.marks.length) (f:=fun i=>mkC (s.marks.getD i default)) hi).symm⟩⟩) ?_
   have hrun:∀i,i<k.clauses.length→runsM (s.wk.mark i)=true→RunF k (clAt k i) (s.wk.mark i):=fun i hi hr=>(markB_run hr).1 (hW.mark i hi)
   have hdw:s.wk.day=s.day:=rfl
   have hdd:=hF.days
   refine XK.c ?_ ?_<;>intro h3<;>try simp at h3
   ·have hst:stepW k s.wk t=tickW k s.wk:=by unfold stepW;rw[if_pos h3]
    rw[hst]
    refine XK.w ?_
    refine XK.r ?_
    refine XL.callMA [300,289,293,297] hE rfl rfl rfl rfl trivial (wtick_ok k hF s.wk (by rw[hdw];omega) hrun) rfl rfl rfl rfl rfl ?_
    refine XL.e ?_
    generalize tickW k s.wk=w' at*
    refine XK.weak (Weak.trans (Weak.of (L:=[(6,.ptr 6 0),(7,.c (.int .i64 0))]) (O:=(6,.cells 44 [.c (.int .i64 w'.day),.vec 289 0,.vec 293 0,.vec 297 0])::(289,wHold k w')::(293,wUsed k w')::(297,wMark k w')::[]) (nx:=5000) (nt:=84) (md:=fun _=>false) hN rfl rfl rfl frI frI)
     (Weak.trans (Weak.frozen (k:=289) hN rfl rfl) (Weak.trans (Weak.frozen (k:=293) hN rfl rfl) (Weak.frozen (k:=297) hN rfl rfl)))) ?_
    refine XK.q ?_
    rfl
   ·obtain⟨n,rfl⟩:∃n:Nat,t=(n:Int):=⟨t.toNat,by omega⟩
    have hst:stepW k s.wk (n:Int)=actW' k s.wk n:=by unfold stepW;rw[if_neg h3];rfl
    rw[hst]
    refine XK.w ?_
    refine XK.r ?_
    refine XL.callMA [300,289,293,297] hE rfl rfl rfl rfl trivial (wact_ok k hF s.wk n (by omega) hrun) rfl rfl rfl rfl rfl ?_
    refine XL.e ?_
    generalize actW' k s.wk n=w' at*
    refine XK.weak (Weak.trans (Weak.of (L:=[(6,.ptr 6 0),(7,.c (.int .i64 0))]) (O:=(6,.cells 44 [.c (.int .i64 w'.day),.vec 289 0,.vec 293 0,.vec 297 0])::(289,wHold k w')::(293,wUsed k w')::(297,wMark k w')::[]) (nx:=5000) (nt:=84) (md:=fun _=>false) hN rfl rfl rfl frI frI)
     (Weak.trans (Weak.frozen (k:=289) hN rfl rfl) (Weak.trans (Weak.frozen (k:=293) hN rfl rfl) (Weak.frozen (k:=297) hN rfl rfl)))) ?_
    refine XK.q ?_
    rfl
theorem stepS_ok (k:K) (hk:kW k) (s:St) (t:Int):Does Tryz.prog 16 [kV k,stV s,.c (.int .i64 t)] (sr (stepS k s t)):=by
 have nil (e:Int):AvS (.tup [nilS,.c (.int .i64 e)]) (sr (zS,e)):=AvS.tup ⟨AvS.agg ⟨AvS.refl _,AvS.nil,AvS.nil,AvS.nil,trivial⟩,AvS.refl _,trivial⟩
 unfold stepS
 split
 ·rename_i h
  exact(stepErr_ok k hk s t h).weaken (nil 1)
 ·rename_i h
  have h:(!validS k s||decide (t< -1)||decide ((k.acts.length:Int)≤t))=false:=Bool.eq_false_iff.2 h
  split
  ·rename_i h2
   exact(stepEnd_ok k hk s t h h2).weaken (nil 13)
  ·rename_i h2
   exact(stepGo_ok k hk s t h h2).weaken (outS_is k _)
end
section
open Go.Eng
theorem cloneI_ok (l:List Int) (h0:0<l.length) (hl:l.length≤1000000):DoesM Tryz.prog 25 [intsV l] [] (.vec 0 0) [.vec 3 1 0 l.length (fun i=>[.c (.int .i64 (l.getD i default))])]:=by
 refine DoesM.mk (fun d=>Nat.beq d 5) 100 TT_ok Tryz.func25 rfl (by kernel_rfl) Tryz.ntmps25 rfl rfl rfl fun E hT hE hN hR=>?_
 have hm:=mixO hE
 refine XK.c ?_ ?_<;>intro h1
 ·cases h1
 ·refine XK.w ?_
  refine XK.weak (Weak.trans (Weak.stamp (k:=121) (t:=0) hN rfl rfl) (Weak.of (L:=[(2,.vec 121 0)]) (O:=[(121,.vec 3 1 0 l.length (fun i=>[.c (.int .i64 (l.getD i default))]))]) (nx:=1000) (nt:=8) (md:=fun _=>false) hN rfl rfl rfl frI ⟨⟨rfl,rfl,rfl⟩,Nat.zero_add _,fun j hj=>by rcases j with _|j<;>rfl⟩)) ?_
  refine XK.t [121] ?_ ?_
  ·exact frI
  ·exact frI
def initTo (k:K) (i:Nat):Wk:=⟨0,fun i=>k.holders.getD i default,fun _=>false,fun j=>if j<i then initM (clAt k j) else⟨0,0,0,0,false⟩⟩
theorem startGo_ok (k:K) (hk:kW k) (h:(kValid k).1=0):Does Tryz.prog 11 [kV k] (.tup [rawS k (startW k (initW k)),.c (.int .i64 0)]):=by
 refine Does.mk (fun _=>false) TT_ok Tryz.func11 rfl (by kernel_rfl) Tryz.ntmps11 rfl rfl fun E hT hE hN hR=>?_
 have hm:=mixO hE
 have hF:=(show kOk k from⟨hk,h⟩).facts
 have b1:=hF.nh
 have b2:=hF.na
 have b3:=hF.nc
 refine XK.r ?_
 refine XL.callLA hE rfl rfl rfl rfl trivial rfl (kValid_ok k hk) rfl ?_
 refine XL.e ?_
 refine XK.c ?_ ?_<;>intro h1<;>try simp at h1
 ·exact absurd h h1
 ·refine XK.s ?_
  refine XD.callMA [700] hE rfl rfl rfl rfl trivial (cloneI_ok k.holders (by omega) (by omega)) rfl rfl rfl rfl rfl ?_
  refine XD.e ?_
  refine XK.loop (ι:=Nat) (fun i=>ST.of [(2,.ptr 2 0),(6,.ptr 226 0),(33,clsV k.clauses),(34,.c (.int .i64 k.clauses.length)),(35,.c (.int .i64 i))] [(2,.cells 44 [.c (.int .i64 0),.c (.slice none 0 0),.c (.slice none 0 0),.c (.slice none 0 0)]),(226,wO k (initTo k i) 700 219 223),(700,wHold k (initTo k i)),(219,wUsed k (initTo k i)),(223,wMark k (initTo k i))] 1000 65 (fun _=>false))
   (fun i=>i≤k.clauses.length) (fun i=>k.clauses.length-i) 0 (Nat.zero_le _)
   (Weak.of hN rfl rfl rfl frI (by(repeat' (first|exact rfl|exact AvIs.refl _|exact trivial|exact fun _ _=>rfl|exact fun _ _=>⟨rfl,AvIs.refl _⟩|exact fun _ hi=>absurd hi (Nat.not_lt_zero _)|(intro i hi;cases Nat.lt_one_iff.1 hi;rfl)|(intro j hj;by_cases hji:j=(0);(· subst hji;simp[setRowF,setL,mkC,Wk.upM,initTo];done);(· simp[setRowF,beq_false hji,Wk.upM,initTo,hji,lt_succ_ne hji];done))|refine⟨?_,?_⟩)))) fun i hi=>?_
  refine XK.c ?_ ?_<;>intro hlt<;>try simp at hlt
  ·have fc:k.clauses.getD (i:Int).toNat default=clAt k i:=rfl
   refine XK.w ?_
   rw[fc]
   refine XK.c ?_ ?_<;>intro h5<;>try simp at h5
   ·refine XK.w ?_
    refine XK.inv ⟨i+1,hlt,Weak.of hN rfl rfl rfl frI (by(repeat' (first|exact rfl|exact AvIs.refl _|exact trivial|exact fun _ _=>rfl|exact fun _ _=>⟨rfl,AvIs.refl _⟩|exact fun _ hi=>absurd hi (Nat.not_lt_zero _)|(intro i hi;cases Nat.lt_one_iff.1 hi;rfl)|(intro j hj;by_cases hji:j=(i);(· subst hji;simp[setRowF,setL,mkC,Wk.upM,initTo,initM,h5];done);(· simp[setRowF,beq_false hji,Wk.upM,initTo,initM,h5,hji,lt_succ_ne hji];done))|refine⟨?_,?_⟩))),by omega⟩
   ·refine XK.w ?_
    refine XK.inv ⟨i+1,hlt,Weak.of hN rfl rfl rfl frI (by(repeat' (first|exact rfl|exact AvIs.refl _|exact trivial|exact fun _ _=>rfl|exact fun _ _=>⟨rfl,AvIs.refl _⟩|exact fun _ hi=>absurd hi (Nat.not_lt_zero _)|(intro i hi;cases Nat.lt_one_iff.1 hi;rfl)|(intro j hj;by_cases hji:j=(i);(· subst hji;simp[setRowF,setL,mkC,Wk.upM,initTo,initM,h5];done);(· simp[setRowF,beq_false hji,Wk.upM,initTo,initM,h5,hji,lt_succ_ne hji];done))|refine⟨?_,?_⟩))),by omega⟩
  ·have hie:i=k.clauses.length:=by omega
   subst hie
   refine XK.weak (Weak.of (L:=[(2,.ptr 2 0),(6,.ptr 226 0)]) (O:=[(2,.cells 44 [.c (.int .i64 0),.c (.slice none 0 0),.c (.slice none 0 0),.c (.slice none 0 0)]),(226,wO k (initW k) 700 219 223),(700,wHold k (initW k)),(219,wUsed k (initW k)),(223,wMark k (initW k))]) (nx:=3000) (nt:=65) (md:=fun _=>false) hN rfl rfl rfl frI ⟨frI,frI,frI,frI,⟨⟨rfl,rfl,rfl⟩,rfl,fun j hj=>?_⟩⟩) ?_
   ·show mkC (initM (clAt k j))=mkC (if j<k.clauses.length then initM (clAt k j) else _)
    rw[if_pos hj]
   ·refine XK.w ?_
    refine XK.r ?_
    refine XL.callMA [226,700,219,223] hE rfl rfl rfl rfl trivial (wstart_ok k hF (initW k)) rfl rfl rfl rfl rfl ?_
    refine XL.e ?_
    generalize startW k (initW k)=w' at*
    refine XK.weak (Weak.trans (Weak.of (L:=[(2,.ptr 2 0),(3,.c (.int .i64 0))]) (O:=(2,.cells 44 [.c (.int .i64 w'.day),.vec 700 0,.vec 219 0,.vec 223 0])::(700,wHold k w')::(219,wUsed k w')::(223,wMark k w')::[]) (nx:=5000) (nt:=65) (md:=fun _=>false) hN rfl rfl rfl frI frI)
     (Weak.trans (Weak.frozen (k:=700) hN rfl rfl) (Weak.trans (Weak.frozen (k:=219) hN rfl rfl) (Weak.frozen (k:=223) hN rfl rfl)))) ?_
    refine XK.q ?_
    rfl
theorem startErr_ok (k:K) (hk:kW k) (h:(kValid k).1≠0):Does Tryz.prog 11 [kV k] (.tup [nilS,.c (.int .i64 1)]):=by
 refine Does.mk (fun _=>false) TT_ok Tryz.func11 rfl (by kernel_rfl) Tryz.ntmps11 rfl rfl fun E hT hE hN hR=>?_
 have hm:=mixO hE
 refine XK.r ?_
 refine XL.callLA hE rfl rfl rfl rfl trivial rfl (kValid_ok k hk) rfl ?_
 refine XL.e ?_
 refine XK.c ?_ ?_<;>intro h1<;>try simp at h1
 ·refine XK.w ?_
  refine XK.q ?_
  rfl
 ·exact absurd h1 h
noncomputable def startS (k:K):St×Int:=if(kValid k).1≠0 then(zS,1) else(outS k (startW k (initW k)),0)
theorem startS_ok (k:K) (hk:kW k):Does Tryz.prog 11 [kV k] (sr (startS k)):=by
 have nil (e:Int):AvS (.tup [nilS,.c (.int .i64 e)]) (sr (zS,e)):=AvS.tup ⟨AvS.agg ⟨AvS.refl _,AvS.nil,AvS.nil,AvS.nil,trivial⟩,AvS.refl _,trivial⟩
 unfold startS
 split
 ·rename_i h
  exact(startErr_ok k hk h).weaken (nil 1)
 ·rename_i h
  exact(startGo_ok k hk (by simpa using h)).weaken (outS_is k _)
end
section
open Go.Eng
def smallQ (k:K) (n:Int):Bool:=
 if(decide ((20:Int)<k.holders.length)||decide ((30:Int)<k.units.length)||decide ((70:Int)<k.acts.length)||decide (n<k.clauses.length)||decide ((100:Int)<k.off.length))=true then false
 else k.clauses.all (fun x=>decide (x.start.length≤20))
theorem smallQ_ok (k:K) (n:Int):Does Tryz.prog 6 [kV k,.c (.int .i64 n)] (.c (.bool (smallQ k n))):=by
 refine Does.mk (fun _=>false) TT_ok Tryz.func6 rfl (by kernel_rfl) Tryz.ntmps6 rfl rfl fun E hT hE hN hR=>?_
 have hm:=mixO hE
 refine XK.c ?_ ?_<;>intro h1
 ·refine XK.w ?_
  refine XK.q ?_
  simp only[smallQ,if_pos h1]
 ·rw[smallQ,if_neg (by rw[h1];simp)]
  refine XK.w ?_
  refine XK.loop (ι:=Nat) (fun i=>ST.of [(2,.ptr 2 0),(4,.c (.bool false)),(5,.c (.int .i64 i))] [(2,.cells 27 (kC k))] 1000 50 (fun _=>false))
   (fun i=>i≤k.clauses.length∧∀j,j<i→decide ((k.clauses.getD j default).start.length≤20)=true) (fun i=>k.clauses.length-i) 0 ⟨Nat.zero_le _,fun j hj=>absurd hj (Nat.not_lt_zero _)⟩
   (Weak.of hN rfl rfl rfl frI frI) fun i hi=>?_
  obtain⟨hi1,hi2⟩:=hi
  refine XK.w ?_
  refine XK.fact (Sat.rs_len (j:=37) rfl) fun hlen=>?_
  have hm':k.clauses.length≤9223372036854775807:=hlen.1
  refine XK.c ?_ ?_<;>intro hlt<;>try simp at hlt
  ·refine XK.c ?_ ?_<;>intro h2<;>try simp at h2
   ·refine XK.w ?_
    refine XK.q ?_
    have:k.clauses.all (fun x=>decide (x.start.length≤20))=false:=all_not hlt (by simp at h2 ⊢;omega)
    rw[this]
   ·refine XK.w ?_
    refine XK.inv ⟨i+1,⟨hlt,fun j hj=>?_⟩,(Weak.of hN rfl rfl rfl frI frI),by omega⟩
    by_cases h:j=i
    ·subst h;simp at h2 ⊢;omega
    ·exact hi2 j (by omega)
  ·refine XK.w ?_
   refine XK.q ?_
   have:k.clauses.all (fun x=>decide (x.start.length≤20))=true:=all_at.2 fun j hj=>hi2 j (by omega)
   rw[this]
noncomputable def runE (k:K) (l:List Int):Nat→St×Int
 |0=>startS k
 |n+1=>if(runE k l n).2=0 then stepS k (runE k l n).1 (l.getD n default) else runE k l n
end
section
open Go.Eng
section
variable {k:K} {w:Wk} {i:Nat}
theorem outS_mark (hi:i<k.clauses.length):(outS k w).marks.getD i default=w.mark i:=map_getD _ hi
theorem outS_hold (hi:i<k.holders.length):(outS k w).holders.getD i default=w.hold i:=map_getD _ hi
theorem outS_used (hi:i<k.acts.length):(outS k w).used.getD i default=w.used i:=map_getD _ hi
end
theorem rdyB_congr {k:K} (hk:KFacts k) {mk mk':Nat→Mk} (h:∀j,j<k.clauses.length→mk j=mk' j) {i:Nat} (hi:i<k.clauses.length):rdyB k mk i=rdyB k mk' i:=by
 unfold rdyB
 rw[h i hi]
 have:(clAt k i).start.all (condHB mk)=(clAt k i).start.all (condHB mk'):=by
  rw[Bool.eq_iff_iff,List.all_eq_true,List.all_eq_true]
  have key:∀c∈(clAt k i).start,condHB mk c=condHB mk' c:=fun c hc=>by
   have:=hk.cond hi hc
   unfold condHB
   rw[h c.clause.toNat (by omega)]
  constructor<;>intro h c hc
  ·rw[←key c hc];exact h c hc
  ·rw[key c hc];exact h c hc
 rw[this]
theorem validS_of {k:K} (hk:kW k) (h0:(kValid k).1=0) {w:Wk} (hw:WOk k w):validS k (outS k w)=true:=by
 have hF:=(show kOk k from⟨hk,h0⟩).facts
 unfold validS
 rw[if_neg (by simpa using h0),if_neg (by rw[show decide ((outS k w).day<0)=false from decide_eq_false (by show ¬w.day<0;have:=hw.day;omega),show decide (k.days<(outS k w).day)=false from decide_eq_false (by show ¬k.days<w.day;have:=hw.day;omega)];simp[outS]),if_neg,if_neg]
 ·refine rall.2 fun i hi=>?_
  have hi:i<k.clauses.length:=by simpa[outS] using hi
  rw[outS_mark hi,hw.mark i hi,rdyB_congr hF (mk:=(outS k w).wk.mark) (mk':=w.mark) (fun j hj=>outS_mark hj) hi,hw.rdy i hi]
  rfl
 ·rw[Bool.not_eq_false]
  refine rall.2 fun i hi=>?_
  have hi:i<k.acts.length:=by simpa[outS] using hi
  rw[outS_used hi]
  cases hu:w.used i with
  |false=>rfl
  |true=>have:=hw.used i hi hu;simpa using this
 ·rw[Bool.not_eq_false]
  refine all_at.2 fun i hi=>?_
  have hi:i<k.holders.length:=by simpa[outS] using hi
  rw[outS_hold hi]
  have:=hw.hold i hi
  simp;omega
theorem held_at {k:K} (hk:KFacts k):∀i,i<k.holders.length→0≤k.holders.getD i default∧k.holders.getD i default<k.parties:=fun i hi=>by
 have:=all_at.1 hk.held i hi
 simp only[Bool.and_eq_true,decide_eq_true_eq] at this
 exact this
theorem startS_zero {k:K} (hk:kW k) (h:(startS k).2=0):(kValid k).1=0∧validS k (startS k).1=true∧(startS k).1.day=0:=by
 unfold startS at h ⊢
 split at h
 ·cases h
 ·rename_i h1
  have h1:(kValid k).1=0:=by simpa using h1
  have hF:=(show kOk k from⟨hk,h1⟩).facts
  rw[if_neg (by simpa using h1)]
  exact⟨h1,validS_of hk h1 (initW_keep hF (held_at hF)),(startW_spec k (initW k)).1.day⟩
theorem stepS_cases {k:K} (hk:kW k) (s:St) (t:Int):((validS k s=false∨t< -1∨(k.acts.length:Int)≤t)∧stepS k s t=(zS,1))∨
  ((validS k s=true∧-1≤t∧t<k.acts.length)∧s.day=k.days∧stepS k s t=(zS,13))∨
  ((validS k s=true∧-1≤t∧t<k.acts.length)∧s.day≠k.days∧stepS k s t=(outS k (stepW k s.wk t),0)∧WOk k (stepW k s.wk t)):=by
 unfold stepS
 split
 ·rename_i h
  simp only[Bool.or_eq_true,Bool.not_eq_true',decide_eq_true_eq] at h
  exact .inl ⟨by rcases h with(h|h)|h<;>simp[h],rfl⟩
 ·rename_i h
  simp only[Bool.or_eq_true,Bool.not_eq_true',decide_eq_true_eq,not_or,Bool.not_eq_false] at h
  obtain⟨⟨h1,h2⟩,h3⟩:=h
  split
  ·rename_i h4
   exact .inr (.inl ⟨⟨h1,by omega,by omega⟩,h4,rfl⟩)
  ·rename_i h4
   have hl:=validS_len h1
   have hF:=(show kOk k from⟨hk,hl.1⟩).facts
   exact .inr (.inr ⟨⟨h1,by omega,by omega⟩,h4,rfl,stepW_keep hF (validS_W h1) ⟨by omega,by omega⟩ (by show s.day<k.days;omega)⟩)
end
section
open Go.Eng
abbrev Ps:=St×Bool
noncomputable def lostS (k:K) (s:St) (p:Int):Bool:=(List.range s.marks.length).any (fun i=>(clAt k i).final&&(s.marks.getD i default).status==4&&(s.marks.getD i default).bearer==p)
noncomputable def actMv (k:K) (p:Int) (x:Ps):List (Int×Ps):=(List.range k.acts.length).filterMap fun a=>if((doerW k x.1.wk.hold a==p)==x.2&&!sameS (stepS k x.1 (a:Int)).1 x.1)=true then some ((a:Int),((stepS k x.1 (a:Int)).1,true)) else none
noncomputable def mvS (k:K) (p:Int) (x:Ps):List (Int×Ps):=(if x.2=true then[(-2,(x.1,false))] else[])++(if k.days≤x.1.day then[] else(if x.2=true then[] else[(-1,((stepS k x.1 (-1)).1,true))])++actMv k p x)
structure Closed (k:K) (p:Int) (W:Ps→Prop):Prop where
 valid:∀x,W x→validS k x.1=true
 fine:∀x,W x→lostS k x.1 p=false
 own:∀s,W (s,true)→∃m∈mvS k p (s,true),W m.2
 other:∀s,W (s,false)→∀m∈mvS k p (s,false),W m.2
def SafeG (k:K) (p:Int) (x:Ps):Prop:=∃W,Closed k p W∧W x
theorem SafeG.closed (k:K) (p:Int):Closed k p (SafeG k p) where
 valid x h:=by obtain⟨W,hW,hx⟩:=h;exact hW.valid x hx
 fine x h:=by obtain⟨W,hW,hx⟩:=h;exact hW.fine x hx
 own s h:=by obtain⟨W,hW,hx⟩:=h;obtain⟨m,h1,h2⟩:=hW.own s hx;exact⟨m,h1,W,hW,h2⟩
 other s h m hm:=by obtain⟨W,hW,hx⟩:=h;exact⟨W,hW,hW.other s hx m hm⟩
theorem pass_mv (k:K) (p:Int) (s:St):(-2,(s,false))∈mvS k p (s,true):=List.mem_append.2 (.inl List.mem_cons_self)
theorem SafeG.turn {k:K} {p:Int} {s:St} (h:SafeG k p (s,false)):SafeG k p (s,true):=by
 have hC:=SafeG.closed k p
 refine⟨fun x=>SafeG k p x∨x=(s,true),⟨fun x hx=>?_,fun x hx=>?_,fun t ht=>?_,fun t ht m hm=>?_⟩,.inr rfl⟩
 ·rcases hx with hx|hx
  ·exact hC.valid x hx
  ·subst hx;exact hC.valid (s,false) h
 ·rcases hx with hx|hx
  ·exact hC.fine x hx
  ·subst hx;exact hC.fine (s,false) h
 ·rcases ht with ht|ht
  ·obtain⟨m,h1,h2⟩:=hC.own t ht
   exact⟨m,h1,.inl h2⟩
  ·injection ht with ht _
   subst ht
   exact⟨_,pass_mv k p t,.inl h⟩
 ·rcases ht with ht|ht
  ·exact .inl (hC.other t ht m hm)
  ·injection ht with _ ht
   cases ht
theorem list_eq {α:Type} [Inhabited α] {l r:List α} (h:l.length=r.length) (h2:∀i,i<l.length→l.getD i default=r.getD i default):l=r:=by
 refine List.ext_getElem h fun i h3 h4=>?_
 have:=h2 i h3
 rwa[List.getD_eq_getElem?_getD,List.getD_eq_getElem?_getD,List.getElem?_eq_getElem h3,List.getElem?_eq_getElem h4] at this
theorem sameS_eq {a b:St} (h:sameS a b=true):a=b:=by
 unfold sameS at h
 simp only[Bool.and_eq_true,beq_iff_eq,eqIS,eqBS,eqMS,List.all_eq_true,List.mem_range,eqMk_iff] at h
 obtain⟨⟨⟨h1,h2,h3⟩,h4,h5⟩,h6,h7⟩:=h
 cases a;cases b
 simp only at h1 h2 h3 h4 h5 h6 h7
 rw[h1,list_eq h2 h3,list_eq h4 h5,list_eq h6 h7]
theorem stepS_good {k:K} {s:St} {t:Int} (h:(stepS k s t).2=0):validS k s=true∧-1≤t∧t<k.acts.length∧s.day≠k.days∧stepS k s t=(outS k (stepW k s.wk t),0):=by
 unfold stepS at h ⊢
 split at h
 ·cases h
 ·rename_i h1
  split at h
  ·cases h
  ·rename_i h2
   rw[if_neg h1,if_neg h2]
   simp only[Bool.or_eq_true,Bool.not_eq_true',decide_eq_true_eq,not_or,Bool.not_eq_false] at h1
   exact⟨h1.1.1,by omega,by omega,h2,rfl⟩
theorem SafeG.step {k:K} {p:Int} {s:St} {t:Int} (hd:s.day≤k.days) (h:SafeG k p (s,false)) (ht:(stepS k s t).2=0) (hn:t=-1∨doerW k s.wk.hold t.toNat≠p):SafeG k p ((stepS k s t).1,true):=by
 obtain⟨h1,h2,h3,h4,-⟩:=stepS_good ht
 have hC:=SafeG.closed k p
 have hday:¬k.days≤s.day:=by omega
 by_cases hsm:sameS (stepS k s t).1 s=true
 ·rw[sameS_eq hsm]
  exact h.turn
 ·refine hC.other s h (t,((stepS k s t).1,true)) (List.mem_append.2 (.inr ?_))
  show _∈(if k.days≤s.day then[] else _)
  rw[if_neg hday]
  rcases hn with hn|hn
  ·subst hn
   exact List.mem_append.2 (.inl (by rw[if_neg (by simp)];exact List.mem_cons_self))
  ·by_cases hm1:t=-1
   ·subst hm1
    exact List.mem_append.2 (.inl (by rw[if_neg (by simp)];exact List.mem_cons_self))
   ·refine List.mem_append.2 (.inr (List.mem_filterMap.2 ⟨t.toNat,List.mem_range.2 (by omega),?_⟩))
    have e:((t.toNat:Nat):Int)=t:=by omega
    simp only[e]
    rw[if_pos (by simp[hn,hsm])]
theorem SafeG.breach {k:K} {p:Int} {x:Ps} (h:SafeG k p x):breachS k x.1 p=false:=by
 have:=(SafeG.closed k p).fine x h
 unfold breachS
 split
 ·rfl
 ·exact this
end
section
open Go.Eng
def placeN (cl:List Nat) (j:Nat):Nat:=cl.idxOf j
def partCl (cl:List Nat) (x:Cl):Cl:={x with start:=x.start.map fun c=>⟨(placeN cl c.clause.toNat:Nat),c.is⟩}
def partK (k:K) (cl:List Nat):K:={k with clauses:=cl.map fun i=>partCl cl (clAt k i)}
structure Ag (cl:List Nat) (w u:Wk):Prop where
 day:u.day=w.day
 hold:u.hold=w.hold
 used:u.used=w.used
 mark:∀n,n<cl.length→u.mark n=w.mark (cl.getD n 0)
structure PartOk (k:K) (cl:List Nat):Prop where
 asc:cl.Pairwise (·<·)
 lt:∀i∈cl,i<k.clauses.length
 link:∀i∈cl,∀c∈(clAt k i).start,0≤c.clause∧c.clause.toNat∈cl
section
variable {k:K} {cl:List Nat}
theorem getD_at {n:Nat} (h:n<cl.length):cl.getD n 0=cl[n]:=by rw[List.getD_eq_getElem?_getD,List.getElem?_eq_getElem h];rfl
theorem partK_at {n:Nat} (h:n<cl.length):clAt (partK k cl) n=partCl cl (clAt k (cl.getD n 0)):=by
 show(cl.map fun i=>partCl cl (clAt k i)).getD n default=_
 rw[getD_at h,List.getD_eq_getElem?_getD,List.getElem?_map,List.getElem?_eq_getElem h]
 rfl
theorem place_at {j:Nat} (h:j∈cl):placeN cl j<cl.length∧cl.getD (placeN cl j) 0=j:=by
 have h1:placeN cl j<cl.length:=List.idxOf_lt_length_of_mem h
 refine⟨h1,?_⟩
 rw[getD_at h1]
 exact List.getElem_idxOf h1
theorem cond_part (hp:PartOk k cl) {w u:Wk} (h:Ag cl w u) {i:Nat} (hi:i∈cl) {c:Cnd} (hc:c∈(clAt k i).start):condHB u.mark ⟨(placeN cl c.clause.toNat:Nat),c.is⟩=condHB w.mark c:=by
 obtain⟨h1,h2⟩:=place_at (hp.link i hi c hc).2
 have e:u.mark (placeN cl c.clause.toNat)=w.mark c.clause.toNat:=by rw[h.mark _ h1,h2]
 unfold condHB
 simp only[Int.toNat_natCast,e]
theorem rdy_part (hp:PartOk k cl) {w u:Wk} (h:Ag cl w u) {n:Nat} (hn:n<cl.length):rdyB (partK k cl) u.mark n=rdyB k w.mark (cl.getD n 0):=by
 have hm:cl.getD n 0∈cl:=by rw[getD_at hn];exact List.getElem_mem hn
 unfold rdyB
 rw[h.mark n hn,partK_at hn]
 have e:(partCl cl (clAt k (cl.getD n 0))).start.all (condHB u.mark)=(clAt k (cl.getD n 0)).start.all (condHB w.mark):=by
  show(List.map _ _).all _=_
  rw[List.all_map,Bool.eq_iff_iff,List.all_eq_true,List.all_eq_true]
  constructor<;>intro q c hc
  ·rw[←cond_part hp h hm hc];exact q c hc
  ·show condHB u.mark _=true
   rw[cond_part hp h hm hc];exact q c hc
 rw[e]
 rfl
def befN (cl:List Nat) (i:Nat):Nat:=cl.countP (·<i)
theorem befN_in (hs:cl.Pairwise (·<·)) {n:Nat} (hn:n<cl.length):befN cl (cl.getD n 0)=n∧befN cl (cl.getD n 0+1)=n+1:=by
 induction cl generalizing n with
 |nil=>cases hn
 |cons a l ih=>
  rw[List.pairwise_cons] at hs
  cases n with
  |zero=>
   have z (b:Nat) (hb:b≤a+1):l.countP (·<b)=0:=List.countP_eq_zero.2 fun x hx=>by have:=hs.1 x hx;simp;omega
   constructor
   ·show(a::l).countP (·<a)=0
    rw[List.countP_cons,z a (by omega)];simp
   ·show(a::l).countP (·<a+1)=0+1
    rw[List.countP_cons,z (a+1) (by omega)];simp
  |succ n=>
   have hn:n<l.length:=by simpa using hn
   obtain⟨h1,h2⟩:=ih hs.2 hn
   have hm:l.getD n 0∈l:=by rw[getD_at hn];exact List.getElem_mem hn
   have ha:=hs.1 _ hm
   have e:(a::l).getD (n+1) 0=l.getD n 0:=rfl
   rw[e]
   unfold befN at h1 h2 ⊢
   rw[List.countP_cons,List.countP_cons,h1,h2]
   have c1:decide (a<l.getD n 0)=true:=by simpa using ha
   have c2:decide (a<l.getD n 0+1)=true:=by simp only[decide_eq_true_eq];omega
   rw[c1,c2]
   exact⟨rfl,rfl⟩
theorem befN_out {i:Nat} (hi:i∉cl):befN cl (i+1)=befN cl i:=by
 unfold befN
 refine List.countP_congr fun x hx=>?_
 have:x≠i:=fun e=>hi (e▸hx)
 simp only[decide_eq_true_eq]
 omega
theorem befN_all {n:Nat} (h:∀i∈cl,i<n):befN cl n=cl.length:=List.countP_eq_length.2 fun x hx=>by simpa using h x hx
theorem pass_part (hp:PartOk k cl) {w u:Wk} (h:Ag cl w u):∀i,Ag cl (passTo k w i).1 (passTo (partK k cl) u (befN cl i)).1
 |0=>by
  have:befN cl 0=0:=List.countP_eq_zero.2 fun x _=>by simp
  rw[this];exact h
 |i+1=>by
  have ih:=pass_part hp h i
  by_cases hi:i∈cl
  ·obtain⟨n,hn,rfl⟩:∃n,n<cl.length∧cl.getD n 0=i:=⟨_,place_at hi⟩
   obtain⟨e1,e2⟩:=befN_in hp.asc hn
   rw[e1] at ih
   rw[e2,passTo,passTo,rdy_part hp ih hn]
   by_cases hr:rdyB k (passTo k w (cl.getD n 0)).1.mark (cl.getD n 0)=true
   ·rw[if_pos hr,if_pos hr]
    refine⟨ih.day,ih.hold,ih.used,fun m hm=>?_⟩
    show(if m=n then _ else _)=(if cl.getD m 0=cl.getD n 0 then _ else _)
    by_cases hmn:m=n
    ·subst hmn
     rw[if_pos rfl,if_pos rfl,ih.hold]
     unfold liveM
     rw[partK_at hn]
     rfl
    ·rw[if_neg hmn,if_neg,ih.mark m hm]
     intro e
     have:=(befN_in hp.asc hm).1
     rw[e,e1] at this
     exact hmn this.symm
   ·rw[if_neg hr,if_neg hr]
    exact ih
  ·rw[befN_out hi,passTo]
   split
   ·refine⟨ih.day,ih.hold,ih.used,fun m hm=>?_⟩
    show _=(if cl.getD m 0=i then _ else _)
    rw[if_neg (fun e=>hi (by rw[←e,getD_at hm];exact List.getElem_mem hm))]
    exact ih.mark m hm
   ·exact ih
def passN (k:K):Nat→Wk→Wk
 |0,w=>w
 |f+1,w=>passN k f (passTo k w k.clauses.length).1
theorem passN_part (hp:PartOk k cl):∀(f:Nat) {w u:Wk},Ag cl w u→Ag cl (passN k f w) (passN (partK k cl) f u)
 |0,_,_,h=>h
 |f+1,w,u,h=>by
  have:=pass_part hp h k.clauses.length
  rw[befN_all hp.lt] at this
  have e:(partK k cl).clauses.length=cl.length:=by simp[partK]
  show Ag cl (passN k f _) (passN (partK k cl) f (passTo (partK k cl) u (partK k cl).clauses.length).1)
  rw[e]
  exact passN_part hp f this
theorem startN_pass:∀(f:Nat) (w:Wk),∃m,startN k f w=passN k m w
 |0,w=>⟨0,rfl⟩
 |f+1,w=>by
  rw[startN]
  split
  ·obtain⟨m,hm⟩:=startN_pass f (passTo k w k.clauses.length).1
   exact⟨m+1,hm⟩
  ·exact⟨0,rfl⟩
theorem pass_still {w:Wk} (h:∀i,i<k.clauses.length→rdyB k w.mark i=false):∀i,i≤k.clauses.length→passTo k w i=(w,false)
 |0,_=>rfl
 |i+1,hi=>by
  rw[passTo,pass_still h i (by omega),if_neg (by rw[h i (by omega)];simp)]
theorem passN_still {w:Wk} (h:∀i,i<k.clauses.length→rdyB k w.mark i=false):∀f,passN k f w=w
 |0=>rfl
 |f+1=>by rw[passN,pass_still h _ (Nat.le_refl _)];exact passN_still h f
theorem passN_add (a b:Nat) (w:Wk):passN k (a+b) w=passN k b (passN k a w):=by
 induction a generalizing w with
 |zero=>rw[Nat.zero_add];rfl
 |succ a ih=>rw[Nat.succ_add];exact ih _
theorem startW_part (hp:PartOk k cl) {w u:Wk} (h:Ag cl w u):Ag cl (startW k w) (startW (partK k cl) u):=by
 obtain⟨m,hm⟩:=startN_pass (k:=k) (idleN k w.mark+1) w
 obtain⟨m',hm'⟩:=startN_pass (k:=partK k cl) (idleN (partK k cl) u.mark+1) u
 have s1:=(startW_spec k w).2
 have s2:=(startW_spec (partK k cl) u).2
 have e1:startW k w=passN k m w:=hm
 have e2:startW (partK k cl) u=passN (partK k cl) m' u:=hm'
 have h3:=passN_part hp m h
 have s3:∀n,n<(partK k cl).clauses.length→rdyB (partK k cl) (passN (partK k cl) m u).mark n=false:=fun n hn=>by
  have hn:n<cl.length:=by simpa[partK] using hn
  rw[rdy_part hp h3 hn,←e1]
  exact s1 _ (hp.lt _ (by rw[getD_at hn];exact List.getElem_mem hn))
 rw[e1]
 rw[e2] at s2 ⊢
 have:passN (partK k cl) m' u=passN (partK k cl) m u:=by
  rcases Nat.le_total m m' with hle|hle
  ·obtain⟨d,rfl⟩:=Nat.exists_eq_add_of_le hle
   rw[passN_add,passN_still s3]
  ·obtain⟨d,rfl⟩:=Nat.exists_eq_add_of_le hle
   rw[passN_add,passN_still s2]
 rw[this]
 exact h3
theorem mapRun_part {f g:Nat→Mk→Mk} (hp:PartOk k cl) (hfg:∀n,n<cl.length→g n=f (cl.getD n 0)) {w u:Wk} (h:Ag cl w u):Ag cl (mapRun f w k.clauses.length) (mapRun g u (partK k cl).clauses.length):=by
 have e:(partK k cl).clauses.length=cl.length:=by simp[partK]
 rw[e]
 refine⟨h.day,h.hold,h.used,fun n hn=>?_⟩
 have hlt:=hp.lt _ (show cl.getD n 0∈cl by rw[getD_at hn];exact List.getElem_mem hn)
 show(if n<cl.length∧runsM (u.mark n)=true then _ else _)=(if cl.getD n 0<k.clauses.length∧runsM (w.mark (cl.getD n 0))=true then _ else _)
 rw[h.mark n hn,hfg n hn]
 by_cases hr:runsM (w.mark (cl.getD n 0))=true
 ·rw[if_pos ⟨hn,hr⟩,if_pos ⟨hlt,hr⟩]
 ·rw[if_neg (fun q=>hr q.2),if_neg (fun q=>hr q.2)]
theorem step_part (hp:PartOk k cl) {w u:Wk} (h:Ag cl w u) (t:Int):Ag cl (stepW k w t) (stepW (partK k cl) u t):=by
 unfold stepW
 have cp {n:Nat} (hn:n<cl.length):=partK_at (k:=k) hn
 split
 ·refine startW_part hp ?_
  have h1:=mapRun_part (f:=tickM k (offD k w.day)) (g:=tickM (partK k cl) (offD (partK k cl) u.day)) hp (fun n hn=>by
   funext m
   unfold tickM
   rw[cp hn,h.day]
   rfl) h
  exact⟨by show u.day+1=w.day+1;rw[h.day],h1.hold,h1.used,h1.mark⟩
 ·have ea:acAt (partK k cl)=acAt k:=rfl
  unfold actW'
  rw[ea,h.used]
  split
  ·exact h
  ·refine startW_part hp ?_
   have h1:=mapRun_part (f:=pauseM k t.toNat) (g:=pauseM (partK k cl) t.toNat) hp (fun n hn=>by funext m;unfold pauseM;rw[cp hn];rfl) h
   have h2:=mapRun_part (f:=effM k t.toNat (doerW k w.hold t.toNat)) (g:=effM (partK k cl) t.toNat (doerW (partK k cl) u.hold t.toNat)) hp (fun n hn=>by
    funext m
    unfold effM
    rw[cp hn,h.hold]
    rfl) h1
   have h3:Ag cl (preA k w t.toNat) (preA (partK k cl) u t.toNat):=h2
   unfold preG
   rw[ea]
   split
   ·unfold giveW
    rw[ea]
    have h4:Ag cl (shiftW k (preA k w t.toNat) t.toNat) (shiftW (partK k cl) (preA (partK k cl) u t.toNat) t.toNat):=
     ⟨h3.day,by unfold shiftW;rw[h3.hold];rfl,by unfold shiftW;rw[h3.used],h3.mark⟩
    split
    ·exact h4
    ·exact mapRun_part hp (fun n hn=>by funext m;unfold bearM;rw[cp hn];rfl) h4
   ·exact h3
end
end
section
open Go.Eng
def restS (cl:List Nat) (s:St):St:=⟨s.day,s.holders,s.used,cl.map fun i=>s.marks.getD i default⟩
section
variable {k:K} {cl:List Nat}
theorem befN_le (hs:cl.Pairwise (·<·)):∀i,befN cl i≤i
 |0=>by have:befN cl 0=0:=List.countP_eq_zero.2 fun x _=>by simp
        omega
 |i+1=>by
  have ih:=befN_le hs i
  by_cases hi:i∈cl
  ·obtain⟨n,hn,e⟩:∃n,n<cl.length∧cl.getD n 0=i:=⟨_,place_at hi⟩
   obtain⟨e1,e2⟩:=befN_in hs hn
   rw[e] at e1 e2
   omega
  ·rw[befN_out hi];omega
theorem PartOk.len (hp:PartOk k cl):cl.length≤k.clauses.length:=by
 have h1:=befN_all hp.lt
 have h2:=befN_le hp.asc k.clauses.length
 omega
theorem PartOk.at_ (hp:PartOk k cl) {n:Nat} (hn:n<cl.length):cl.getD n 0∈cl∧cl.getD n 0<k.clauses.length:=by
 have:cl.getD n 0∈cl:=by rw[getD_at hn];exact List.getElem_mem hn
 exact⟨this,hp.lt _ this⟩
theorem partK_len:(partK k cl).clauses.length=cl.length:=by simp[partK]
theorem partK_W (hk:KFacts k) (hp:PartOk k cl):kW (partK k cl):=by
 obtain⟨w1,w2,w3,w4,w5,w6,w7⟩:=hk.w
 refine⟨w1,w2,w3,w4,fun x hx=>?_,w6,w7⟩
 obtain⟨i,hi,rfl⟩:=List.mem_map.1 hx
 obtain⟨c1,c2,c3,c4,c5,c6⟩:=hk.clW' (hp.lt i hi)
 refine⟨c1,c2,c3,c4,fun c hc=>?_,c6⟩
 obtain⟨d,hd,rfl⟩:=List.mem_map.1 hc
 have h1:=(place_at (hp.link i hi d hd).2).1
 have h2:=hp.len
 have h3:=hk.nc
 refine⟨?_,(c5 d hd).2⟩
 show(-9223372036854775808:Int)≤((placeN cl d.clause.toNat:Nat):Int)∧((placeN cl d.clause.toNat:Nat):Int)≤9223372036854775807
 omega
theorem kValid_of {k:K} (h1:(decide (12<k.parties)||decide (2000<k.days)||decide ((12:Int)<k.holders.length)||decide ((20:Int)<k.units.length)||decide ((60:Int)<k.acts.length)||decide ((400:Int)<k.clauses.length))=false)
  (h2:framedB k=true) (h3:∀i,i<k.clauses.length→clauseB k i (clAt k i)=true):(kValid k).1=0:=by
 unfold kValid
 rw[if_neg (by rw[h1];simp),if_neg (by rw[h2];simp)]
 have:badCl k=none:=List.find?_eq_none.2 fun i hi=>by
  have:=h3 i (by simpa using hi)
  simpa[clAt] using this
 rw[this]
theorem kValid_to {k:K} (h:(kValid k).1=0):(decide (12<k.parties)||decide (2000<k.days)||decide ((12:Int)<k.holders.length)||decide ((20:Int)<k.units.length)||decide ((60:Int)<k.acts.length)||decide ((400:Int)<k.clauses.length))=false∧framedB k=true:=by
 unfold kValid at h
 split at h
 ·cases h
 ·rename_i h1
  split at h
  ·cases h
  ·rename_i h2
   exact⟨by simpa using h1,by simpa using h2⟩
theorem clause_part (hp:PartOk k cl) {n:Nat} (hn:n<cl.length) (h:clauseB k (cl.getD n 0) (clAt k (cl.getD n 0))=true):clauseB (partK k cl) n (clAt (partK k cl) n)=true:=by
 obtain⟨hm,-⟩:=hp.at_ hn
 have hl:=hp.link _ hm
 rw[partK_at hn]
 generalize hi:cl.getD n 0=i at*
 generalize clAt k i=x at*
 have e1:∀(y:Cl),kindB (partK k cl) y=kindB k y:=fun _=>rfl
 have e2:∀(z:Int),natB (partK k cl) z=natB k z:=fun _=>rfl
 have e3:∀(z:Int),movB (partK k cl) z=movB k z:=fun _=>rfl
 unfold clauseB at h ⊢
 have s1:(partCl cl x).start.length=x.start.length:=by simp[partCl]
 split at h
 ·cases h
 rename_i g1
 rw[if_neg (show ¬(decide ((partCl cl x).act<0)||decide (((partK k cl).acts.length:Int)≤(partCl cl x).act)||decide ((partCl cl x).after<1)||decide (400<(partCl cl x).after))=true from g1)]
 split at h
 ·cases h
 rename_i g2
 rw[if_neg (by rw[s1,e1];exact g2)]
 split at h
 ·cases h
 rename_i g3
 have g3:∀c∈x.start,condB k i c=true:=List.all_eq_true.1 (by simpa using g3)
 have g4:(partCl cl x).start.all (condB (partK k cl) n)=true:=by
  rw[List.all_eq_true]
  intro c hc
  obtain⟨d,hd,rfl⟩:=List.mem_map.1 hc
  have:=g3 d hd
  obtain⟨p1,p2⟩:=place_at (hl d hd).2
  have p0:=(hl d hd).1
  unfold condB at this ⊢
  simp only[Bool.not_eq_true',Bool.or_eq_false_iff,decide_eq_false_iff_not,beq_eq_false_iff_ne] at this ⊢
  obtain⟨⟨⟨⟨q1,q2⟩,q3⟩,q4⟩,q5⟩:=this
  rw[partK_len]
  refine⟨⟨⟨⟨by omega,by omega⟩,fun e=>?_⟩,q4⟩,q5⟩
  have e:placeN cl d.clause.toNat=n:=by omega
  rw[e,hi] at p2
  omega
 rw[if_neg (by rw[g4];simp)]
 exact h
theorem partK_valid (hk:kOk k) (hp:PartOk k cl):(kValid (partK k cl)).1=0:=by
 obtain⟨h1,h2⟩:=kValid_to hk.2
 have hF:=hk.facts
 have h3:=hp.len
 refine kValid_of ?_ h2 fun n hn=>?_
 ·simp only[Bool.or_eq_false_iff,decide_eq_false_iff_not] at h1 ⊢
  exact⟨h1.1,by rw[partK_len];have:=hF.nc;omega⟩
 ·have hn:n<cl.length:=by rw[←partK_len];exact hn
  exact clause_part hp hn (hF.cl _ (hp.at_ hn).2)
theorem rest_mark {s:St} {n:Nat} (hn:n<cl.length):(restS cl s).marks.getD n default=s.marks.getD (cl.getD n 0) default:=by
 show(cl.map fun i=>s.marks.getD i default).getD n default=_
 rw[getD_at hn,List.getD_eq_getElem?_getD,List.getElem?_map,List.getElem?_eq_getElem hn]
 rfl
theorem rest_ag (s:St):Ag cl s.wk (restS cl s).wk:=⟨rfl,rfl,rfl,fun n hn=>rest_mark hn⟩
theorem markB_part {n:Nat} (hn:n<cl.length) (m:Mk):markB (partK k cl) n m=markB k (cl.getD n 0) m:=by
 unfold markB
 rw[partK_at hn]
 rfl
theorem validS_part (hk:kW k) (hp:PartOk k cl) {s:St} (h:validS k s=true):validS (partK k cl) (restS cl s)=true:=by
 have hl:=validS_len h
 have hv:=hl.1
 unfold validS at h ⊢
 rw[if_neg (by rw[partK_valid ⟨hk,hv⟩ hp];simp)]
 rw[if_neg (by simpa using hv)] at h
 split at h
 ·cases h
 rename_i g1
 rw[if_neg (by
  simp only[Bool.or_eq_true,decide_eq_true_eq,bne_iff_ne,not_or,Decidable.not_not] at g1 ⊢
  refine⟨g1.1,?_⟩
  rw[partK_len]
  simp[restS])]
 split at h
 ·cases h
 rename_i g2
 refine(congrArg (·=true) (if_neg (show ¬(s.holders.all fun h=>!(decide (h<0)||decide (k.parties≤h)))=false from g2))).mpr ?_
 split at h
 ·cases h
 rename_i g3
 refine(congrArg (·=true) (if_neg (show ¬((List.range s.used.length).all fun a=>!(s.used.getD a default&&(acAt k a).kind==1))=false from g3))).mpr ?_
 have h:=rall.1 h
 refine rall.2 fun n hn=>?_
 have hn:n<cl.length:=by simpa[restS] using hn
 have hi:=(hp.at_ hn).2
 have:=h (cl.getD n 0) (by rw[hl.2.2.2.1];exact hi)
 rw[rest_mark hn,markB_part hn,rdy_part hp (rest_ag s) hn]
 exact this
theorem rest_out (hp:PartOk k cl) {w u:Wk} (h:Ag cl w u):outS (partK k cl) u=restS cl (outS k w):=by
 unfold outS restS
 rw[h.day,h.hold,h.used,partK_len]
 have e:(List.range cl.length).map u.mark=cl.map fun i=>((List.range k.clauses.length).map w.mark).getD i default:=by
  refine List.ext_getElem (by simp) fun n h1 h2=>?_
  have hn:n<cl.length:=by simpa using h1
  have hi:=(hp.at_ hn).2
  rw[getD_at hn] at hi
  rw[List.getElem_map,List.getElem_map,List.getElem_range,h.mark n hn,getD_at hn,map_getD _ hi]
 rw[e]
 rfl
theorem stepS_part (hk:kW k) (hp:PartOk k cl) {s:St} {t:Int} (h:(stepS k s t).2=0):stepS (partK k cl) (restS cl s) t=(restS cl (stepS k s t).1,0):=by
 obtain⟨h1,h2,h3,h4,h5⟩:=stepS_good h
 have hv:=validS_part hk hp h1
 rw[h5]
 unfold stepS
 rw[if_neg (by simp only[hv,Bool.or_eq_true,Bool.not_eq_true',decide_eq_true_eq,not_or];exact⟨⟨by simp,by omega⟩,by show ¬((k.acts.length:Int)≤t);omega⟩)]
 refine(if_neg (show ¬s.day=k.days from h4)).trans ?_
 rw[rest_out hp (step_part hp (rest_ag s) t)]
end
end
section
open Go.Eng
def namedC (k:K) (i:Nat) (a:Int):Prop:=(clAt k i).act=a∨(clAt k i).pause=a∨(clAt k i).resume=a
structure Parts (k:K) (P:List (List Nat)):Prop where
 ok:∀cl∈P,PartOk k cl
 cover:∀i,i<k.clauses.length→∃cl∈P,i∈cl
 kind:∀cl∈P,∀cl'∈P,cl≠cl'→∀a,a<k.acts.length→(acAt k a).kind=1
 apart:∀cl∈P,∀cl'∈P,cl≠cl'→∀i∈cl,∀j∈cl',∀a:Int,0≤a→namedC k i a→¬namedC k j a
theorem sameS_refl (s:St):sameS s s=true:=by simp[sameS,eqIS,eqBS,eqMS,eqMk_iff]
theorem validS_step {k:K} (hk:kW k) {s:St} {t:Int} (h:(stepS k s t).2=0):validS k (stepS k s t).1=true:=by
 rcases stepS_cases hk s t with⟨-,e⟩|⟨-,-,e⟩|⟨h1,-,e,hw⟩
 ·rw[e] at h;cases h
 ·rw[e] at h;cases h
 ·rw[e];exact validS_of hk (validS_len h1.1).1 hw
section
variable {k:K} {P:List (List Nat)}
theorem startW_still {w:Wk} (h:∀i,i<k.clauses.length→rdyB k w.mark i=false):startW k w=w:=by
 unfold startW
 rw[startN,pass_still h _ (Nat.le_refl _)]
 rfl
theorem outS_same {s:St} (h:validS k s=true):outS k s.wk=s:=by
 obtain⟨-,h1,h2,h3,-⟩:=validS_len h
 have e {α:Type} [Inhabited α] (l:List α) (n:Nat) (hn:l.length=n):(List.range n).map (fun i=>l.getD i default)=l:=by
  subst hn
  refine List.ext_getElem (by simp) fun i h4 h5=>?_
  rw[List.getElem_map,List.getElem_range,List.getD_eq_getElem?_getD,List.getElem?_eq_getElem h5]
  rfl
 cases s
 unfold outS
 simp only[St.wk] at*
 rw[e _ _ h1,e _ _ h2,e _ _ h3]
theorem rdy_none {s:St} (h:validS k s=true):∀i,i<k.clauses.length→rdyB k s.wk.mark i=false:=fun i hi=>by
 obtain⟨-,-,-,h3,-,-,-,h4⟩:=validS_len h
 have:=h4 i (by omega)
 simp only[Bool.and_eq_true,Bool.not_eq_true'] at this
 exact this.2
theorem step_unnamed {s:St} {a:Int} (ha:0≤a) (h:(stepS k s a).2=0) (hkd:(acAt k a.toNat).kind=1) (hn:∀i,i<k.clauses.length→¬namedC k i a):(stepS k s a).1=s:=by
 obtain⟨h1,h2,h3,h4,h5⟩:=stepS_good h
 rw[h5]
 have e:(a.toNat:Int)=a:=by omega
 have m1 {f:Nat→Mk→Mk} (w:Wk) (hf:∀i,i<k.clauses.length→∀m,f i m=m):mapRun f w k.clauses.length=w:=by
  unfold mapRun
  have:(fun i=>if i<k.clauses.length∧runsM (w.mark i)=true then f i (w.mark i) else w.mark i)=w.mark:=by
   funext i
   split
   ·rename_i q;exact hf i q.1 _
   ·rfl
  rw[this]
 show outS k (stepW k s.wk a)=s
 unfold stepW
 rw[if_neg (by omega)]
 unfold actW'
 rw[if_neg (by rw[hkd];simp)]
 unfold preG
 rw[if_neg (by rw[hkd];simp)]
 unfold preA
 rw[m1 s.wk (f:=pauseM k a.toNat) (fun i hi m=>by
  have:=hn i hi
  unfold namedC at this
  unfold pauseM
  rw[e,if_neg (fun q=>this (.inr (.inl q.symm))),if_neg (fun q=>this (.inr (.inr q.symm)))]),m1 s.wk (fun i hi m=>by
  have:=hn i hi
  unfold namedC at this
  unfold effM
  rw[e,if_neg (fun q=>this (.inl q.1))]),startW_still (rdy_none h1)]
 exact outS_same h1
theorem named_part {cl:List Nat} {n:Nat} (hn:n<cl.length) {a:Int}:namedC (partK k cl) n a↔namedC k (cl.getD n 0) a:=by
 unfold namedC
 rw[partK_at hn]
 exact Iff.rfl
theorem lost_part (hP:Parts k P) {s:St} {p:Int} (hv:validS k s=true) (h:∀cl∈P,lostS (partK k cl) (restS cl s) p=false):lostS k s p=false:=by
 unfold lostS
 rw[List.any_eq_false]
 intro i hi hl
 have hi:i<k.clauses.length:=by have:=(validS_len hv).2.2.2.1;simp at hi;omega
 obtain⟨cl,hc,hic⟩:=hP.cover i hi
 obtain⟨h1,h2⟩:=place_at hic
 have:=h cl hc
 unfold lostS at this
 rw[List.any_eq_false] at this
 refine this (placeN cl i) (by simpa[restS] using h1) ?_
 rw[rest_mark h1,partK_at h1,h2]
 exact hl
theorem parts_step (hk:kW k) (hP:Parts k P) {s:St} {p t:Int} (h:∀cl∈P,SafeG (partK k cl) p (restS cl s,false)) (ht:(stepS k s t).2=0) (hn:t=-1∨doerW k s.wk.hold t.toNat≠p):
  ∀cl∈P,SafeG (partK k cl) p (restS cl (stepS k s t).1,true):=fun cl hc=>by
 have h1:=stepS_part hk (hP.ok cl hc) ht
 have hv:=(stepS_good ht).1
 have h2:=SafeG.step (k:=partK k cl) (s:=restS cl s) (t:=t) (validS_len hv).2.2.2.2.1.2 (h cl hc) (by rw[h1]) hn
 rwa[h1] at h2
theorem product (hk:kW k) (hP:Parts k P) {s:St} {p:Int} {o:Bool} (hv:validS k s=true) (h:∀cl∈P,SafeG (partK k cl) p (restS cl s,o)):SafeG k p (s,o):=by
 refine⟨fun x=>validS k x.1=true∧∀cl∈P,SafeG (partK k cl) p (restS cl x.1,x.2),⟨fun x hx=>hx.1,fun x hx=>?_,fun s hx=>?_,fun s hx m hm=>?_⟩,hv,h⟩
 ·exact lost_part hP hx.1 fun cl hc=>(SafeG.closed _ p).fine _ (hx.2 cl hc)
 ·obtain⟨hv,hx⟩:=hx
  by_cases hall:∀cl∈P,SafeG (partK k cl) p (restS cl s,false)
  ·exact⟨_,pass_mv k p s,hv,hall⟩
  ·obtain⟨cl,hall⟩:=Classical.not_forall.1 hall
   obtain⟨hc,hns⟩:=Classical.not_imp.1 hall
   obtain⟨m,hm,hms⟩:=(SafeG.closed _ p).own _ (hx cl hc)
   rcases List.mem_append.1 hm with hm|hm
   ·exfalso
    rw[if_pos rfl] at hm
    rw[List.mem_singleton.1 hm] at hms
    exact hns hms
   ·have hday:¬k.days≤s.day:=fun q=>by
     rw[if_pos (show(partK k cl).days≤(restS cl s).day from q)] at hm
     cases hm
    rw[if_neg (show ¬(partK k cl).days≤(restS cl s).day from hday),if_pos rfl,List.nil_append] at hm
    obtain⟨a,ha,hq⟩:=List.mem_filterMap.1 hm
    have ha:a<k.acts.length:=List.mem_range.1 ha
    split at hq
    rotate_left
    ·cases hq
    rename_i hc2
    injection hq with hq
    subst hq
    simp only[Bool.and_eq_true,beq_iff_eq,Bool.not_eq_true'] at hc2
    obtain⟨hd,hsm⟩:=hc2
    have hl:=validS_len hv
    have hst:(stepS k s (a:Int)).2=0:=by
     unfold stepS
     rw[if_neg (by simp only[hv,Bool.or_eq_true,Bool.not_eq_true',decide_eq_true_eq,not_or];exact⟨⟨by simp,by omega⟩,by omega⟩),if_neg (by omega)]
    have h1:=stepS_part hk (hP.ok cl hc) hst
    rw[h1] at hms hsm
    have hv2:=validS_step hk hst
    refine⟨((a:Int),((stepS k s (a:Int)).1,true)),List.mem_append.2 (.inr ?_),hv2,fun cl' hc'=>?_⟩
    ·rw[if_neg hday,if_pos rfl,List.nil_append]
     refine List.mem_filterMap.2 ⟨a,List.mem_range.2 ha,?_⟩
     have:sameS (stepS k s (a:Int)).1 s=false:=by
      cases hq:sameS (stepS k s (a:Int)).1 s with
      |false=>rfl
      |true=>rw[sameS_eq hq,sameS_refl] at hsm;cases hsm
     have hd':(doerW k s.wk.hold a==p)=true:=beq_iff_eq.2 hd
     rw[if_pos (by simp only[hd',this];rfl)]
    ·by_cases hcc:cl'=cl
     ·subst hcc;exact hms
     ·have hkd:=hP.kind cl hc cl' hc' (fun e=>hcc e.symm) a ha
      have hst':(stepS (partK k cl) (restS cl s) (a:Int)).2=0:=by rw[h1]
      -- the act is named in the part that changes
      have hnm:∃i∈cl,namedC k i (a:Int):=Classical.byContradiction fun hno=>by
       have:=step_unnamed (k:=partK k cl) (a:=(a:Int)) (by omega) hst' (by rw[Int.toNat_natCast];exact hkd) (fun n hn hnam=>by
        have hn:n<cl.length:=by rw[←partK_len (k:=k)];exact hn
        exact hno ⟨_,((hP.ok cl hc).at_ hn).1,(named_part hn).1 hnam⟩)
       rw[h1] at this
       have this:restS cl (stepS k s (a:Int)).1=restS cl s:=this
       rw[this,sameS_refl] at hsm
       cases hsm
      obtain⟨i,hic,hin⟩:=hnm
      have h2:=stepS_part hk (hP.ok cl' hc') hst
      have hst2:(stepS (partK k cl') (restS cl' s) (a:Int)).2=0:=by rw[h2]
      have:=step_unnamed (k:=partK k cl') (a:=(a:Int)) (by omega) hst2 (by rw[Int.toNat_natCast];exact hkd) (fun n hn hnam=>by
       have hn:n<cl'.length:=by rw[←partK_len (k:=k)];exact hn
       exact hP.apart cl hc cl' hc' (fun e=>hcc e.symm) i hic _ ((hP.ok cl' hc').at_ hn).1 a (by omega) hin ((named_part hn).1 hnam))
      rw[h2] at this
      have this:restS cl' (stepS k s (a:Int)).1=restS cl' s:=this
      show SafeG _ p (restS cl' (stepS k s (a:Int)).1,true)
      rw[this]
      exact hx cl' hc'
 ·obtain⟨hv,hx⟩:=hx
  rw[mvS,if_neg (by simp),List.nil_append] at hm
  by_cases hday:k.days≤s.day
  ·rw[if_pos (show k.days≤(s,false).1.day from hday)] at hm;cases hm
  rw[if_neg (show ¬k.days≤(s,false).1.day from hday),if_neg (by simp)] at hm
  have hl:=validS_len hv
  have good (t:Int) (h1:-1≤t) (h2:t<k.acts.length):(stepS k s t).2=0:=by
   unfold stepS
   rw[if_neg (by simp only[hv,Bool.or_eq_true,Bool.not_eq_true',decide_eq_true_eq,not_or];exact⟨⟨by simp,by omega⟩,by omega⟩),if_neg (by omega)]
  rcases List.mem_append.1 hm with hm|hm
  ·rw[List.mem_singleton.1 hm]
   have hst:=good (-1) (by omega) (by omega)
   exact⟨validS_step hk hst,parts_step hk hP hx hst (.inl rfl)⟩
  ·obtain⟨a,ha,hq⟩:=List.mem_filterMap.1 hm
   have ha:a<k.acts.length:=by simpa using ha
   split at hq
   rotate_left
   ·cases hq
   rename_i hc2
   injection hq with hq
   subst hq
   simp only[Bool.and_eq_true] at hc2
   have hst:=good (a:Int) (by omega) (by omega)
   refine⟨validS_step hk hst,parts_step hk hP hx hst (.inr ?_)⟩
   rw[Int.toNat_natCast]
   intro e
   have:=hc2.1
   simp[e] at this
end
end
section
open Go.Eng
noncomputable def toPos (k:K) (p:Int) (l:List Int) (i:Nat):Ps:=
 if 0≤l.getD i default∧doerS k (runE k l i).1 (l.getD i default)=p then((runE k l (i+1)).1,true) else((runE k l i).1,false)
theorem doerS_good {k:K} {s:St} {t:Int} (h:(stepS k s t).2=0) (h0:0≤t):doerS k s t=doerW k s.wk.hold t.toNat:=by
 obtain⟨h1,h2,h3,-⟩:=stepS_good h
 unfold doerS
 rw[if_neg]
 simp only[h1,Bool.or_eq_true,Bool.not_eq_true',decide_eq_true_eq,not_or]
 exact⟨⟨by simp,by omega⟩,by omega⟩
theorem runE_step {k:K} {l:List Int} {i:Nat} (h:(runE k l i).2=0):runE k l (i+1)=stepS k (runE k l i).1 (l.getD i default):=by
 show(if _ then _ else _)=_
 rw[if_pos h]
theorem stages_next {k:K} {p:Int} {l:List Int} {Sf:Ps→Prop} (hstep:∀s t,Sf (s,false)→(stepS k s t).2=0→(t=-1∨doerW k s.wk.hold t.toNat≠p)→Sf ((stepS k s t).1,true))
  (hok:∀j,j≤l.length→(runE k l j).2=0) {i:Nat} (hi:i<l.length) (h1:Sf (toPos k p l i)):Sf ((runE k l (i+1)).1,true):=by
 have e:=runE_step (hok i (by omega))
 have hs:=hok (i+1) hi
 rw[e] at hs ⊢
 unfold toPos at h1
 split at h1
 ·rwa[e] at h1
 ·rename_i hn
  refine hstep _ _ h1 hs ?_
  by_cases h0:0≤l.getD i default
  ·right
   rw[←doerS_good hs h0]
   exact fun q=>hn ⟨h0,q⟩
  ·left
   have:=(stepS_good hs).2.1
   omega
end
end Go.Proofs.YtgpkkllbejgmlaaGreatDoor
