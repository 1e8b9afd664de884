import Derived.Test.YtgpkkllbejgmlaaGreatDoorZz13
import Derived.Test.YtgpkkllbejgmlaaGreatDoorZz10
import Derived.Test.YtgpkkllbejgmlaaGreatDoorTys
import Derived.Maps.RangeRun
import Derived.Lib.ItoaMem
import Derived.Lib.AppendStr
import Derived.Lib.SlBytesConst
import Derived.KernelRfl
import Derived.Lib.Mul64
import Derived.Laws.Bits64b
set_option linter.unusedSimpArgs false
set_option linter.unusedVariables false
set_option maxRecDepth 10000
section
namespace Go.Eng
theorem frI {p:Prop} (h:p:=by(repeat' (first|exact rfl|exact AvIs.refl _|exact trivial|exact fun _ _=>rfl|exact fun _ _=>⟨rfl,AvIs.refl _⟩|refine⟨?_,?_⟩))):p:=h
theorem cJ {k:IntKind} {a b:Int} (h:a=b):AV.c (.int k a)=AV.c (.int k b):=by rw[h]
theorem frV {p:Prop} (h:p:=by(repeat' (first|exact rfl|exact AvIs.refl _|exact trivial|exact fun _ _=>rfl|exact fun _ _=>⟨rfl,AvIs.refl _⟩|exact cJ (by omega)|refine⟨?_,?_⟩))):p:=h
theorem mixO {E:Env} {P:Program} (hE:E.P=P) (h:P.follows .mixedOrders=true:=by kernel_rfl):E.P.follows .mixedOrders=true:=by rw[hE];exact h
section
variable {E:Env} {Q:Exit→ST→Prop} {ops:Array Oper} {k k':List It} {st:ST} {T:TE} {tr0:List (EffM×(List Nat×List Nat))}
theorem XK.n (h:XK E k' Q st) (h1:nrmB k=true:=by exact rfl) (h2:nrm 200 k=some k':=by exact rfl):XK E k Q st:=XK.norm h1 h2 h
theorem XK.a {id:Nat} {fr fr':Nat→AV} {ob ob':Nat→Option Ob} {nx nt:Nat} {md:Nat→Bool} {obl obl':List Prop} (h:XK E k Q ⟨fr',ob',nx+nt,nt,md⟩) (hT:TOk E.P T:=by assumption)
  (hd:ops.toList.all (dstOk ⟨fun _=>.junk,fun _=>none,nx,nt,md⟩)=true:=by exact rfl) (hr:runF T ops.toList nx nt md [] fr ob ops.toList=⟨obl,fr',ob',[]⟩:=by exact rfl) (hf:frcR obl []=some obl':=by exact rfl)
  (ho:AllP obl':=by(first|exact trivial|(simp[AllP,impG];done)|(simp only[AllP,List.append,List.nil_append,List.cons_append,inK,Go.Eng.tdivE,Go.Eng.tmodE,Int.toNat_natCast];omega)|(simp[AllP,impG,inK,Go.Eng.tdivE,Go.Eng.tmodE];omega)|((repeat (first|(focus (first|omega|(intro i hi;first|rfl|(cases Nat.lt_one_iff.1 hi;rfl)|(rcases i with _|_|_|_|i<;>first|rfl|(exfalso;omega)))|(simp<;>omega)))|refine⟨?_,?_⟩));done)|(simp only[AllP,impG,inK];grind))):XK E (.code (.region id ops false)::k) Q ⟨fr,ob,nx,nt,md⟩:=
 XK.rgn (hT:=hT) (hd:=hd) (hr:=hr) (hf:=hf) (ho:=ho) (h:=h)
theorem XK.b {id:Nat} {fr fr':Nat→AV} {ob ob':Nat→Option Ob} {nx nt:Nat} {md:Nat→Bool} {obl obl':List Prop} (h:XK E k Q ⟨fr',ob',nx+nt,nt,md⟩) (hT:TOk E.P T:=by assumption) (hm:E.P.follows .mixedOrders=true:=by assumption)
  (hd:ops.toList.all (dstOk ⟨fun _=>.junk,fun _=>none,nx,nt,md⟩)=true:=by exact rfl) (hr:runF T ops.toList nx nt md [] fr ob ops.toList=⟨obl,fr',ob',[]⟩:=by exact rfl) (hf:frcR obl []=some obl':=by exact rfl)
  (hc:checkD [] [] ops.toList (runD T ops.toList nx nt md [] [] fr ob ops.toList).tr=true:=by kernel_rfl)
  (ho:AllP obl':=by(first|exact trivial|(simp[AllP,impG];done)|(simp only[AllP,List.append,List.nil_append,List.cons_append,inK,Go.Eng.tdivE,Go.Eng.tmodE,Int.toNat_natCast];omega)|(simp[AllP,impG,inK,Go.Eng.tdivE,Go.Eng.tmodE];omega)|((repeat (first|(focus (first|omega|(intro i hi;first|rfl|(cases Nat.lt_one_iff.1 hi;rfl)|(rcases i with _|_|_|_|i<;>first|rfl|(exfalso;omega)))|(simp<;>omega)))|refine⟨?_,?_⟩));done)|(simp only[AllP,impG,inK];grind))):XK E (.code (.region id ops true)::k) Q ⟨fr,ob,nx,nt,md⟩:=
 XK.rgnD (hT:=hT) (hm:=hm) (hd:=hd) (hr:=hr) (hf:=hf) (hc:=hc) (ho:=ho) (h:=h)
theorem XL.g {l rest:List Oper} {fr fr':Nat→AV} {ob ob':Nat→Option Ob} {nx nt:Nat} {md:Nat→Bool} {obl obl':List Prop} (h:XL E ops Q rest ⟨fr',ob',nx,nt,md⟩) (hT:TOk E.P T:=by assumption)
  (hd:ops.toList.all (dstOk ⟨fun _=>.junk,fun _=>none,nx,nt,md⟩)=true:=by exact rfl) (hm:ops.toList.drop (ops.toList.length-l.length)=l:=by exact rfl) (hr:runF T ops.toList nx nt md [] fr ob l=⟨obl,fr',ob',rest⟩:=by exact rfl) (hf:frcR obl []=some obl':=by exact rfl)
  (ho:AllP obl':=by(first|exact trivial|(simp[AllP,impG];done)|(simp only[AllP,List.append,List.nil_append,List.cons_append,inK,Go.Eng.tdivE,Go.Eng.tmodE,Int.toNat_natCast];omega)|(simp[AllP,impG,inK,Go.Eng.tdivE,Go.Eng.tmodE];omega)|((repeat (first|(focus (first|omega|(intro i hi;first|rfl|(cases Nat.lt_one_iff.1 hi;rfl)|(rcases i with _|_|_|_|i<;>first|rfl|(exfalso;omega)))|(simp<;>omega)))|refine⟨?_,?_⟩));done)|(simp only[AllP,impG,inK];grind))):XL E ops Q l ⟨fr,ob,nx,nt,md⟩:=
 XL.go (hT:=hT) (hd:=hd) (hm:=hm) (hr:=hr) (hf:=hf) (ho:=ho) (h:=h)
theorem XK.o {fr:Nat→AV} {ob:Nat→Option Ob} {nx nt:Nat} {md:Nat→Bool} {rs:List ResultVar} {x x' res:AV} (he:x'=res) (h:retF T ⟨fr,ob,nx,nt,md⟩ rs=some x:=by exact rfl) (hf:frc x=some x':=by exact rfl) (hk:x'.ks (fun _=>false)=true:=by exact rfl):XK E (.code .ret::k) (RetQ T rs res) ⟨fr,ob,nx,nt,md⟩:=XK.out h hf hk he
theorem XK.p {fr:Nat→AV} {ob:Nat→Option Ob} {nx nt:Nat} {md:Nat→Bool} {rs:List ResultVar} {x x' res:AV} (he:x'=res) (h:retF T ⟨fr,ob,nx,nt,md⟩ rs=some x:=by exact rfl) (hf:frc x=some x':=by exact rfl) (hk:x'.ks (fun _=>false)=true:=by exact rfl):XK E [] (RetQ T rs res) ⟨fr,ob,nx,nt,md⟩:=XK.outN h hf hk he
section
variable {k1:List It} {st':ST}
theorem XK.w (h:XK E k' Q st') (hw:XK E k' Q st'→XK E k Q st:=by intro h;(repeat (first|refine XK.n ?_|refine XK.a ?_|refine XK.b ?_));exact h):XK E k Q st:=hw h
theorem XK.c {c:Operand} {x y:Code} {b:Bool} (ht:b=true→XK E (.code x::k') Q st') (hf:b=false→XK E (.code y::k') Q st') (hw:XK E (.code (.cond c x y)::k') Q st'→XK E k Q st:=by intro h;(repeat (first|refine XK.n ?_|refine XK.a ?_|refine XK.b ?_));exact h) (hc:st'.ev c=.c (.bool b):=by exact rfl):XK E k Q st:=hw (XK.cond hc ht hf)
theorem XK.r {id:Nat} {rest:List Oper} {fr fr':Nat→AV} {ob ob':Nat→Option Ob} {nx nt:Nat} {md:Nat→Bool} {obl obl':List Prop} (h:XL E ops (XQ E k' Q) rest ⟨fr',ob',nx,nt,md⟩) (hw:XK E (.code (.region id ops false)::k') Q ⟨fr,ob,nx,nt,md⟩→XK E k Q st:=by intro h;(repeat (first|refine XK.n ?_|refine XK.a ?_|refine XK.b ?_));exact h) (hT:TOk E.P T:=by assumption)
  (hd:ops.toList.all (dstOk ⟨fun _=>.junk,fun _=>none,nx,nt,md⟩)=true:=by exact rfl) (hm:ops.toList.drop (ops.toList.length-ops.toList.length)=ops.toList:=by exact rfl) (hr:runF T ops.toList nx nt md [] fr ob ops.toList=⟨obl,fr',ob',rest⟩:=by exact rfl) (hf:frcR obl []=some obl':=by exact rfl)
  (ho:AllP obl':=by(first|exact trivial|(simp[AllP,impG];done)|(simp only[AllP,List.append,List.nil_append,List.cons_append,inK,Go.Eng.tdivE,Go.Eng.tmodE,Int.toNat_natCast];omega)|(simp[AllP,impG,inK,Go.Eng.tdivE,Go.Eng.tmodE];omega)|((repeat (first|(focus (first|omega|(intro i hi;first|rfl|(cases Nat.lt_one_iff.1 hi;rfl)|(rcases i with _|_|_|_|i<;>first|rfl|(exfalso;omega)))|(simp<;>omega)))|refine⟨?_,?_⟩));done)|(simp only[AllP,impG,inK];grind))):XK E k Q st:=hw (XK.region (XL.go (hT:=hT) (hd:=hd) (hm:=hm) (hr:=hr) (hf:=hf) (ho:=ho) (h:=h)))
theorem XL.e {l:List Oper} {fr fr':Nat→AV} {ob ob':Nat→Option Ob} {nx nt:Nat} {md:Nat→Bool} {obl obl':List Prop} (h:XK E k' Q st') (hT:TOk E.P T:=by assumption)
  (hd:ops.toList.all (dstOk ⟨fun _=>.junk,fun _=>none,nx,nt,md⟩)=true:=by exact rfl) (hm:ops.toList.drop (ops.toList.length-l.length)=l:=by exact rfl) (hr:runF T ops.toList nx nt md [] fr ob l=⟨obl,fr',ob',[]⟩:=by exact rfl) (hf:frcR obl []=some obl':=by exact rfl)
  (ho:AllP obl':=by(first|exact trivial|(simp[AllP,impG];done)|(simp only[AllP,List.append,List.nil_append,List.cons_append,inK,Go.Eng.tdivE,Go.Eng.tmodE,Int.toNat_natCast];omega)|(simp[AllP,impG,inK,Go.Eng.tdivE,Go.Eng.tmodE];omega)|((repeat (first|(focus (first|omega|(intro i hi;first|rfl|(cases Nat.lt_one_iff.1 hi;rfl)|(rcases i with _|_|_|_|i<;>first|rfl|(exfalso;omega)))|(simp<;>omega)))|refine⟨?_,?_⟩));done)|(simp only[AllP,impG,inK];grind))) (hw:XK E k' Q st'→XK E k Q ⟨fr',ob',nx+nt,nt,md⟩:=by intro h;(repeat (first|refine XK.n ?_|refine XK.a ?_|refine XK.b ?_));exact h):XL E ops (XQ E k Q) l ⟨fr,ob,nx,nt,md⟩:=
 XL.go (hT:=hT) (hd:=hd) (hm:=hm) (hr:=hr) (hf:=hf) (ho:=ho) (h:=XL.fin (hw h))
theorem XK.s {id:Nat} {rest:List Oper} {fr fr':Nat→AV} {ob ob':Nat→Option Ob} {nx nt:Nat} {md:Nat→Bool} {obl obl':List Prop} {tr1:List (EffM×(List Nat×List Nat))} (h:XD E ops Q k' tr1 rest ⟨fr',ob',nx,nt,md⟩) (hw:XK E (.code (.region id ops true)::k') Q ⟨fr,ob,nx,nt,md⟩→XK E k Q st:=by intro h;(repeat (first|refine XK.n ?_|refine XK.a ?_|refine XK.b ?_));exact h) (hT:TOk E.P T:=by assumption) (hmo:E.P.follows .mixedOrders=true:=by assumption)
  (hd:ops.toList.all (dstOk ⟨fun _=>.junk,fun _=>none,nx,nt,md⟩)=true:=by exact rfl) (hm:ops.toList.drop (ops.toList.length-ops.toList.length)=ops.toList:=by exact rfl) (hr:runF T ops.toList nx nt md [] fr ob ops.toList=⟨obl,fr',ob',rest⟩:=by exact rfl) (hf:frcR obl []=some obl':=by exact rfl) (ht:(runD T ops.toList nx nt md [] [] fr ob ops.toList).tr=tr1:=by exact rfl)
  (ho:AllP obl':=by(first|exact trivial|(simp[AllP,impG];done)|(simp only[AllP,List.append,List.nil_append,List.cons_append,inK,Go.Eng.tdivE,Go.Eng.tmodE,Int.toNat_natCast];omega)|(simp[AllP,impG,inK,Go.Eng.tdivE,Go.Eng.tmodE];omega)|((repeat (first|(focus (first|omega|(intro i hi;first|rfl|(cases Nat.lt_one_iff.1 hi;rfl)|(rcases i with _|_|_|_|i<;>first|rfl|(exfalso;omega)))|(simp<;>omega)))|refine⟨?_,?_⟩));done)|(simp only[AllP,impG,inK];grind))):XK E k Q st:=hw (XK.drawn hmo (XD.go (hT:=hT) (hd:=hd) (hm:=hm) (hr:=hr) (hf:=hf) (ho:=ho) (h:=ht▸h)))
theorem XD.g {l rest:List Oper} {fr fr':Nat→AV} {ob ob':Nat→Option Ob} {nx nt:Nat} {md:Nat→Bool} {obl obl':List Prop} {tr1:List (EffM×(List Nat×List Nat))} (h:XD E ops Q k tr1 rest ⟨fr',ob',nx,nt,md⟩) (hT:TOk E.P T:=by assumption)
  (hd:ops.toList.all (dstOk ⟨fun _=>.junk,fun _=>none,nx,nt,md⟩)=true:=by exact rfl) (hm:ops.toList.drop (ops.toList.length-l.length)=l:=by exact rfl) (hr:runF T ops.toList nx nt md [] fr ob l=⟨obl,fr',ob',rest⟩:=by exact rfl) (hf:frcR obl []=some obl':=by exact rfl) (ht:(runD T ops.toList nx nt md [] tr0 fr ob l).tr=tr1:=by exact rfl)
  (ho:AllP obl':=by(first|exact trivial|(simp[AllP,impG];done)|(simp only[AllP,List.append,List.nil_append,List.cons_append,inK,Go.Eng.tdivE,Go.Eng.tmodE,Int.toNat_natCast];omega)|(simp[AllP,impG,inK,Go.Eng.tdivE,Go.Eng.tmodE];omega)|((repeat (first|(focus (first|omega|(intro i hi;first|rfl|(cases Nat.lt_one_iff.1 hi;rfl)|(rcases i with _|_|_|_|i<;>first|rfl|(exfalso;omega)))|(simp<;>omega)))|refine⟨?_,?_⟩));done)|(simp only[AllP,impG,inK];grind))):XD E ops Q k tr0 l ⟨fr,ob,nx,nt,md⟩:=XD.go (hT:=hT) (hd:=hd) (hm:=hm) (hr:=hr) (hf:=hf) (ho:=ho) (h:=ht▸h)
theorem XD.e {l:List Oper} {fr fr':Nat→AV} {ob ob':Nat→Option Ob} {nx nt:Nat} {md:Nat→Bool} {obl obl':List Prop} (h:XK E k' Q st') (hT:TOk E.P T:=by assumption)
  (hd:ops.toList.all (dstOk ⟨fun _=>.junk,fun _=>none,nx,nt,md⟩)=true:=by exact rfl) (hm:ops.toList.drop (ops.toList.length-l.length)=l:=by exact rfl) (hr:runF T ops.toList nx nt md [] fr ob l=⟨obl,fr',ob',[]⟩:=by exact rfl) (hf:frcR obl []=some obl':=by exact rfl)
  (ho:AllP obl':=by(first|exact trivial|(simp[AllP,impG];done)|(simp only[AllP,List.append,List.nil_append,List.cons_append,inK,Go.Eng.tdivE,Go.Eng.tmodE,Int.toNat_natCast];omega)|(simp[AllP,impG,inK,Go.Eng.tdivE,Go.Eng.tmodE];omega)|((repeat (first|(focus (first|omega|(intro i hi;first|rfl|(cases Nat.lt_one_iff.1 hi;rfl)|(rcases i with _|_|_|_|i<;>first|rfl|(exfalso;omega)))|(simp<;>omega)))|refine⟨?_,?_⟩));done)|(simp only[AllP,impG,inK];grind))) (hc:checkD [] [] ops.toList (runD T ops.toList nx nt md [] tr0 fr ob l).tr=true:=by kernel_rfl) (hw:XK E k' Q st'→XK E k Q ⟨fr',ob',nx+nt,nt,md⟩:=by intro h;(repeat (first|refine XK.n ?_|refine XK.a ?_|refine XK.b ?_));exact h):XD E ops Q k tr0 l ⟨fr,ob,nx,nt,md⟩:=
 XD.go (hT:=hT) (hd:=hd) (hm:=hm) (hr:=hr) (hf:=hf) (ho:=ho) (h:=XD.fin hc (hw h))
def endB:List It→Bool
 |[]=>true
 |.code .ret::_=>true
 |_=>false
theorem endB.two {p:List It→Prop} (h:endB k=true) (h0:p []) (h1:∀k,p (.code .ret::k)):p k:=by
 match k,h with
 |[],_=>exact h0
 |.code .ret::k,_=>exact h1 k
theorem XK.q {fr:Nat→AV} {ob:Nat→Option Ob} {nx nt:Nat} {md:Nat→Bool} {rs:List ResultVar} {x x' res:AV} (he:x'=res) (hb:endB k=true:=by exact rfl) (h:retF T ⟨fr,ob,nx,nt,md⟩ rs=some x:=by exact rfl) (hf:frc x=some x':=by exact rfl) (hk:x'.ks (fun _=>false)=true:=by exact rfl):XK E k (RetQ T rs res) ⟨fr,ob,nx,nt,md⟩:=
 endB.two hb (p:=fun k=>XK E k (RetQ T rs res) ⟨fr,ob,nx,nt,md⟩) (XK.outN h hf hk he) fun _=>XK.out h hf hk he
theorem XK.l {fr:Nat→AV} {ob:Nat→Option Ob} {nx nt:Nat} {md:Nat→Bool} {rs:List ResultVar} {x x' res:AV} (he:AvIs x' res) (hb:endB k=true:=by exact rfl) (h:retF T ⟨fr,ob,nx,nt,md⟩ rs=some x:=by exact rfl) (hf:frc x=some x':=by exact rfl) (hk:x'.ks (fun _=>false)=true:=by exact rfl):XK E k (RetQ T rs res) ⟨fr,ob,nx,nt,md⟩:=
 endB.two hb (p:=fun k=>XK E k (RetQ T rs res) ⟨fr,ob,nx,nt,md⟩) (XK.outLN h hf hk he) fun _=>XK.outL h hf hk he
theorem XK.t {fr:Nat→AV} {ob:Nat→Option Ob} {nx nt n:Nat} {md:Nat→Bool} {rs:List ResultVar} {res x x':AV} {O1 O':List Ob} (L:List Nat) (hOO:ObAll O1 O') (he:AvIs x' res) (hN:E.N=n:=by assumption) (hb:endB k=true:=by exact rfl) (hd:nodupB L=true:=by exact rfl) (hn:(List.range n).all (fun i=>match L[i]? with
  |some k=>Nat.beq k i
  |none=>false)=true:=by exact rfl) (hO:obsF ob (renG (posF L)) L=some O1:=by exact rfl) (h:retF T ⟨fun j=>(fr j).map (renG (posF L)),obL O',nx,nt,md⟩ rs=some x:=by exact rfl) (hf:frc x=some x':=by exact rfl):XK E k (RetM E T rs res O') ⟨fr,ob,nx,nt,md⟩:=
 endB.two hb (p:=fun k=>XK E k (RetM E T rs res O') ⟨fr,ob,nx,nt,md⟩) (XK.outRN L hN hd hn hO hOO h hf he) fun _=>XK.outR L hN hd hn hO hOO h hf he
end
end
end Go.Eng
end
namespace Go.Proofs.YtgpkkllbejgmlaaGreatDoor
section
open Go.Eng
abbrev Q:=Int×Int
def qv (q:Q):AV:=.agg [.c (.int .i64 q.1),.c (.int .i64 q.2)]
def qOk (q:Q):Bool:=decide (1≤q.2∧q.2≤1000000∧-1000000000000≤q.1∧q.1≤1000000000000∧Nat.gcd q.1.natAbs q.2.natAbs=1)
theorem qOk_iff {q:Q}:qOk q=true↔1≤q.2∧q.2≤1000000∧-1000000000000≤q.1∧q.1≤1000000000000∧Nat.gcd q.1.natAbs q.2.natAbs=1:=by simp[qOk]
def qW (q:Q):Prop:=inK .i64 q.1∧inK .i64 q.2
end
section
open Go.Eng
structure U where
 name:ByteArray
 kind:Int
 base:Int
 fac:Q
structure A where
 unit:Int
 val:Q
def uc (u:U):List AV:=[.c (.string u.name),.c (.int .i64 u.kind),.c (.int .i64 u.base),.c (.int .i64 u.fac.1),.c (.int .i64 u.fac.2)]
def ac (a:A):List AV:=[.c (.int .i64 a.unit),.c (.int .i64 a.val.1),.c (.int .i64 a.val.2)]
def qc (q:Q):List AV:=[.c (.int .i64 q.1),.c (.int .i64 q.2)]
def av (a:A):AV:=.agg [.c (.int .i64 a.unit),.c (.int .i64 a.val.1),.c (.int .i64 a.val.2)]
def tabV (n:Nat) (t:Nat→U):AV:=.rs 5 n (fun i=>uc (t i))
def uW (u:U):Prop:=inK .i64 u.kind∧inK .i64 u.base∧qW u.fac
theorem bytes_beq {a b:ByteArray}:(a==b)=true↔a=b:=by
 obtain⟨x⟩:=a
 obtain⟨y⟩:=b
 show((x==y)=true)↔_
 simp
theorem bytes_bne {a b:ByteArray}:(a==b)=false↔a≠b:=by rw[←Bool.not_eq_true,bytes_beq]
def emptyName:ByteArray:={data:=#[]}
def uOk (t:Nat→U) (n i:Nat):Prop:=
 (i<20∧(t i).name≠emptyName∧∀j,j<i→(t j).name≠(t i).name)∧(((t i).kind=1∨(t i).kind=2)∧qOk (t i).fac=true∧0<(t i).fac.1)∧
 ((0≤(t i).base∧(t i).base<n)∧(t (t i).base.toNat).kind=(t i).kind∧(t (t i).base.toNat).base=(t i).base)∧((t i).base≠i∨(t i).fac=(1,1))
instance (t:Nat→U) (n i:Nat):Decidable (uOk t n i):=by unfold uOk;infer_instance
def uOkB (t:Nat→U) (n i:Nat):Bool:=decide (uOk t n i)
theorem uOkB_iff {t:Nat→U} {n i:Nat}:uOkB t n i=true↔uOk t n i:=by unfold uOkB;exact decide_eq_true_iff
theorem uOkB_false {t:Nat→U} {n i:Nat}:uOkB t n i=false↔¬uOk t n i:=by rw[←uOkB_iff];simp
end
section
open Go.Eng
instance:Inhabited U:=⟨⟨emptyName,0,0,(0,0)⟩⟩
instance:Inhabited A:=⟨⟨0,(0,0)⟩⟩
noncomputable def cInt:Codec Tryz.prog 3 Int:=Codec.int .i64 (show Tryz.prog.underlying 3=some (.int .i64) from by kernel_rfl) (by kernel_rfl)
noncomputable def cU8:Codec Tryz.prog 5 Int:=Codec.int .u8 (show Tryz.prog.underlying 5=some (.int .u8) from by kernel_rfl) (by kernel_rfl)
noncomputable def cStr:Codec Tryz.prog 9 ByteArray:=Codec.str (show Tryz.prog.underlying 9=some .string from by kernel_rfl) (by kernel_rfl)
noncomputable def cQ:Codec Tryz.prog 59 Q:=(Codec.struct ty59_k rfl (.cons cInt (.cons cInt (.nil _ _))) (by kernel_rfl)).map (fun x=>(x.1,x.2.1)) qc qW (fun _=>rfl) (fun _=>rfl) (fun _ h=>⟨h.1,h.2.1⟩)
noncomputable def cU:Codec Tryz.prog 159 U:=(Codec.struct ty159_k rfl (.cons cStr (.cons cInt (.cons cInt (.cons cQ (.nil _ _))))) (by kernel_rfl)).map (fun x=>⟨x.1,x.2.1,x.2.2.1,x.2.2.2.1⟩) uc uW (fun _=>rfl) (fun _=>rfl) (fun _ h=>⟨h.2.1,h.2.2.1,h.2.2.2.1⟩)
noncomputable def cUs:Codec Tryz.prog 23 (List U):=Codec.slice cU ty23_k (by decide) (by kernel_rfl)
theorem all_getD {α:Type} [Inhabited α] {p:α→Prop} {l:List α} (h:∀a∈l,p a):∀j,j<l.length→p (l.getD j default):=by
 intro j hj
 simp only[List.getD_eq_getElem?_getD,List.getElem?_eq_getElem hj,Option.getD_some]
 exact h _ (List.getElem_mem hj)
end
end Go.Proofs.YtgpkkllbejgmlaaGreatDoor
section
namespace Go.Eng
open Go.ChangeMaps (setBlock)
structure PinOk (kk:KK) (d:Value→Bool) (es:List (Value×Nat)) (clock:Nat):Prop where
 key:∀x∈es,kk.has x.1=true
 lt:∀x∈es,x.2<clock
 nb:(es.map (·.2)).Nodup
 nk:(es.map (·.1)).Nodup
 dom:∀v,kk.has v=true→(d v=true↔∃b,(v,b)∈es)
section
variable {E:Env} {st:ST} {a:Act} {w:World} {ρ:Rho} {Q:Exit→ST→Prop} {T:TE} {ops:Array Oper} {rest:List Oper} {o:Oper}
theorem XL.any (hg:o.guard=none) (h:∀a w ρ,SatR E st a w ρ→∃n w',(execOp a.eval o).run E.P w=.ok (.value n) w'∧∃st',Sat E st' (a.put o.dst n) w'∧XL E ops Q rest st'):XL E ops Q (o::rest) st:=by
 intro a w ⟨ρ,hs⟩
 refine wpListIn_step fun K hK=>?_
 obtain⟨n,w',h1,st',h2,h3⟩:=h a w ρ hs
 rw[if_pos (by simp[Region.wanted,hg])]
 exact wpIn_run h1 (fun _ e=>by cases e) (hK _ _ (h3 _ _ h2))
end
end Go.Eng
end
section
namespace Go.Eng
open Go.Sort Go.Lib
section
variable {E:Env} {st:ST} {Q:Exit→ST→Prop} {T:TE} {ops:Array Oper} {rest:List Oper} {o1 o2 o3 o4:Oper}
theorem step_value {a:Act} {w:World} {o:Oper} {n:Value} {k:List Oper} (hg:o.guard=none) (h1:(execOp a.eval o).run E.P w=.ok (.value n) w) (h:wpListIn (FW E.rd) 0 E.P ops (Post E Q) k (a.put o.dst n) w):wpListIn (FW E.rd) 0 E.P ops (Post E Q) (o::k) a w:=by
 refine wpListIn_step fun K hK=>?_
 rw[if_pos (by simp[Region.wanted,hg])]
 exact wpIn_run h1 (fun _ e=>by cases e) (hK _ _ h)
theorem eval_put_same {a:Act} {d:Nat} {v:Value} (h:d<a.tmps.size):(a.put (some d) v).eval (.tmp d)=v:=by
 simp[Act.put,Act.eval,h]
theorem eval_put_other {a:Act} {d t:Nat} {v:Value} (h:t≠d):(a.put (some d) v).eval (.tmp t)=a.eval (.tmp t):=by
 simp[Act.put,Act.eval,Array.getElem?_setIfInBounds_ne (Ne.symm h)]
theorem XL.fmt10 (hT:TOk E.P T) {x8 x1:Operand} {d1 d2 d3 d4 t7 t k s e tv n u g:Nat} {kt:IntKind} {f:Nat→List AV} {b:Nat→UInt8} {ti te:TI} {tys:Array TypeId}
  (ho1:o1.op=.move x8) (hg1:o1.guard=none) (hd1:o1.dst=some d1) (ho2:o2.op=.slice t (.tmp t7) none (some (.tmp d1)) none) (hg2:o2.guard=none) (hd2:o2.dst=some d2)
  (ho3:o3.op=.move x1) (hg3:o3.guard=none) (hd3:o3.dst=some d3) (ho4:o4.op=.call {callee:=.value (.func g),args:=#[.tmp d2,.tmp d3],argTypes:=tys}) (hg4:o4.guard=none) (hd4:o4.dst=some d4)
  (hne:(Nat.blt d1 st.nt&&Nat.blt d2 st.nt&&Nat.blt d3 st.nt&&Nat.blt d4 st.nt&&!Nat.beq t7 d1&&!Nat.beq d2 d3&&!Nat.beq t7 d2)=true) (hx1:∀d,x1=.tmp d→d≠d1∧d≠d2)
  (ht:T.find t=some ti) (hk:ti.kind=.array 24 e) (hte:T.find e=some te) (hsz:te.size=1)
  (h8:st.ev x8=.c (.int kt n)) (h7:st.fr t7=.vptr k s 1 0 0) (hu:st.ev x1=.c (.int .u64 u)) (hob:st.ob k=some (.vec tv 1 s 24 f)) (hf:∀i,i<24→f i=[.c (.int .u8 (b i).toNat)]) (hn:n≤24) (hnu:n=nDigits u) (hlt:u<10^n)
  (hF:FnOk E.P g) (hG:∀(blk cap:Nat) (d:Array UInt8) (w:World),Go.Sort.Holds (fun(b:UInt8)=>Value.int .u8 (b.toNat:Int)) w blk 0 d→d.size=n→Calls E.P g #[.slice (some ⟨blk,0,none⟩) n cap,.int .u64 u] w fun e w'=>
   e=.returned (.tuple #[])∧∃(m v':Nat) (dk:Array UInt8),w'=(putRow (fun(b:UInt8)=>Value.int .u8 (b.toNat:Int)) w blk 0 dk).drewN m∧FmtInv n u 0 v' dk)
  (h:XL E ops Q rest {st with fr:=upd (upd (upd (upd st.fr d1 .junk) d2 .junk) d3 .junk) d4 .junk,ob:=upd st.ob k (some (.vec tv 1 s 24 (fun i=>if i<n then[.c (.int .u8 ((decDigits u).getD i 0).toNat)] else f i)))}):XL E ops Q (o1::o2::o3::o4::rest) st:=by
 simp only[Bool.and_eq_true,Bool.not_eq_true'] at hne
 obtain⟨⟨⟨⟨⟨⟨b1,b2⟩,b3⟩,b4⟩,n1⟩,n2⟩,n3⟩:=hne
 have l1:=Nat.lt_of_succ_le (Nat.le_of_ble_eq_true b1)
 have l2:=Nat.lt_of_succ_le (Nat.le_of_ble_eq_true b2)
 have l3:=Nat.lt_of_succ_le (Nat.le_of_ble_eq_true b3)
 have l4:=Nat.lt_of_succ_le (Nat.le_of_ble_eq_true b4)
 have n1':t7≠d1:=fun e=>by subst e;rw[Nat.beq_refl] at n1;cases n1
 have n2':d2≠d3:=fun e=>by subst e;rw[Nat.beq_refl] at n2;cases n2
 have n3':t7≠d2:=fun e=>by subst e;rw[Nat.beq_refl] at n3;cases n3
 intro a w ⟨ρ,hs⟩
 obtain⟨_,_,_,_,blk,cap,cur,ho',hk',hev7,_,hnc,hcm,hh,hcs,_,hcell⟩:=hs.live_vptr (by simp[live,hob]) (h7▸hs.fr t7)
 rw[hob] at ho'
 injection ho' with ho'
 injection ho' with q1 q2 _ q4 q5
 subst q1 q2 q4 q5
 have e8:a.eval x8=.int kt n:=by have:=hs.ev x8;rw[h8] at this;exact this.c_inv
 have eu:a.eval x1=.int .u64 u:=by have:=hs.ev x1;rw[hu] at this;exact this.c_inv
 have hev7':a.eval (.tmp t7)=.pointer (some ⟨blk,0,.none⟩):=by simpa[Act.eval] using hev7
 have hkd:=(hT t ti ht).kind
 rw[hk] at hkd
 simp only[KindOk] at hkd
 have hso:=(hT e te hte).run_sizeOf w
 -- the four operations
 refine step_value (n:=.int kt n) hg1 (by simp[execOp,ho1,e8]) ?_
 have s1:SatR E {st with fr:=upd st.fr d1 .junk} (a.put o1.dst (.int kt n)) w ρ:=by rw[hd1];exact hs.put l1 .junk
 generalize hA1:a.put o1.dst (.int kt n)=a1 at s1 ⊢
 have z1:a1.eval (.tmp d1)=.int kt n:=by rw[←hA1,hd1];exact eval_put_same (by rw[hs.tsz];exact l1)
 have z7:a1.eval (.tmp t7)=.pointer (some ⟨blk,0,.none⟩):=by rw[←hA1,hd1,eval_put_other n1'];exact hev7'
 refine step_value (n:=.slice (some ⟨blk,0,.none⟩) n 24) hg2 ?_ ?_
 ·simp[execOp,ho2,z1,z7,Instr.sliceAt,run_underlying hkd,Instr.sureAddr,Instr.sliceBounds,Instr.sliceBound,asIntOf_int,show(n:Int)≤24 by omega,hso,Result.andThen,Addr.add]
 have s2:SatR E {st with fr:=upd (upd st.fr d1 .junk) d2 .junk} (a1.put o2.dst (.slice (some ⟨blk,0,.none⟩) n 24)) w ρ:=by rw[hd2];exact s1.put l2 .junk
 have zu:a1.eval x1=.int .u64 u:=by
  cases x1 with
  |tmp d=>rw[←hA1,hd1,eval_put_other (hx1 d rfl).1];exact eu
  |const v=>exact eu
  |global g=>exact eu
  |func f=>exact eu
 have t1:a1.tmps.size=st.nt:=s1.tsz
 generalize hA2:a1.put o2.dst (.slice (some ⟨blk,0,.none⟩) n 24)=a2 at s2 ⊢
 have z2:a2.eval (.tmp d2)=.slice (some ⟨blk,0,.none⟩) n 24:=by rw[←hA2,hd2];exact eval_put_same (by rw[t1];exact l2)
 have zu2:a2.eval x1=.int .u64 u:=by
  cases x1 with
  |tmp d=>rw[←hA2,hd2,eval_put_other (hx1 d rfl).2];exact zu
  |const v=>exact zu
  |global g=>exact zu
  |func f=>exact zu
 refine step_value (n:=.int .u64 u) hg3 (by simp[execOp,ho3,zu2]) ?_
 have s3:SatR E {st with fr:=upd (upd (upd st.fr d1 .junk) d2 .junk) d3 .junk} (a2.put o3.dst (.int .u64 u)) w ρ:=by rw[hd3];exact s2.put l3 .junk
 have t2:a2.tmps.size=st.nt:=s2.tsz
 generalize hA3:a2.put o3.dst (.int .u64 u)=a3 at s3 ⊢
 have y2:a3.eval (.tmp d2)=.slice (some ⟨blk,0,.none⟩) n 24:=by rw[←hA3,hd3,eval_put_other n2'];exact z2
 have y3:a3.eval (.tmp d3)=.int .u64 u:=by rw[←hA3,hd3];exact eval_put_same (by rw[t2];exact l3)
 -- the call
 refine wpListIn_step fun K hK=>?_
 rw[if_pos (by simp[Region.wanted,hg4])]
 have hrun:(execOp a3.eval o4).run E.P w=.ok (.enter g #[.slice (some ⟨blk,0,.none⟩) n 24,.int .u64 u]) w:=by
  obtain⟨fn,g1,g2,g3⟩:=hF
  have hbn:fn.body≠none:=fun e=>by rw[e] at g2;cases g2
  have hnm:fn.name≠ "runtime.NumGoroutine" :=by simpa using g3
  have ef:a3.eval (.func g)=.func (.func g) #[] #[]:=rfl
  simp[execOp,ho4,resolve,ef,Deferred.ofValue,invoke,callFunc,g1,hnm,hbn,y2,y3]
 refine wpIn_run hrun (fun _ e=>by cases e) ⟨(fun e=>by cases e),Calls.fw ?_ _ _⟩
 have hbyte:∀i,i<24→cur.getD i undef=.int .u8 (b i).toNat:=fun i hi=>by
  have:=hcell i 0 (.c (.int .u8 (b i).toNat)) hi (by rw[hf i hi];rfl)
  simpa using this.c_inv
 have hdl:(Array.ofFn (n:=n) fun i=>b i.val).size=n:=by simp
 refine(hG blk 24 (Array.ofFn (n:=n) fun i=>b i.val) w (fun j hj=>?_) hdl).mono ?_
 ·rw[hdl] at hj
  have hj2:j<cur.size:=by omega
  constructor
  ·have hb:=hbyte j (by omega)
   simp only[World.cell?,hh,Nat.zero_add]
   rw[getElem!_pos _ j (by simpa using hj)]
   simp only[Array.getElem_ofFn]
   rw[←hb]
   simp[hj2]
  ·simp[World.frozen?,hh]
 rintro e' w' ⟨rfl,m,v',dk,rfl,hinv⟩
 have hdk:dk.size=n:=hinv.size
 have hrow:putRow (fun(b:UInt8)=>Value.int .u8 (b.toNat:Int)) w blk 0 dk=w.setRow blk (putCells (fun(b:UInt8)=>Value.int .u8 (b.toNat:Int)) 0 dk cur):=by
  simp only[putRow,mapBlock,World.setRow]
  congr 1
  apply Array.ext_getElem?
  intro i
  simp only[Array.getElem?_modify]
  by_cases hi:blk=i
  ·subst hi;simp[hh,onCells]
  ·simp[hi]
 have s4:=s3.writeRow (k:=k) (e:=tv) (sz:=1) (s:=s) (n:=24) (f:=f) (f':=fun i=>if i<n then[.c (.int .u8 ((decDigits u).getD i 0).toNat)] else f i) (w':=putRow (fun(b:UInt8)=>Value.int .u8 (b.toNat:Int)) w blk 0 dk) hob (fun i hi=>by
   split
   ·rfl
   ·rw[hf i hi];rfl) (fun g' cap' cur' hg' hh' _ _ _=>by
   rw[hk'] at hg'
   injection hg' with hg'
   injection hg' with _ hg'
   injection hg' with hg' _ _
   injection hg' with hg'
   injection hg' with hg' _ _
   subst hg'
   rw[hh] at hh'
   injection hh' with hh'
   injection hh' with hh' _ _
   subst hh'
   refine⟨_,hrow,by simp[putCells],fun i j x hi hx=>?_⟩
   have hi2:i<cur.size:=by omega
   by_cases hin:i<n
   ·rw[if_pos hin] at hx
    cases j with
    |succ j=>cases hx
    |zero=>
     injection hx with hx
     subst hx
     have hdl2:i<(decDigits u).length:=by rw[decDigits_length];omega
     have hr:=row_is_numeral (u:=u) (v':=v') (dk:=dk) (by rw[←hnu];exact hinv) i hdl2
     have:(putCells (fun(b:UInt8)=>Value.int .u8 (b.toNat:Int)) 0 dk cur).getD (i*1+0) undef=.int .u8 ((decDigits u).getD i 0).toNat:=by
      simp only[putCells,Nat.mul_one,Nat.add_zero]
      rw[Array.getD_eq_getD_getElem?]
      simp[hi2,hdk,hin,hdl2,hr]
     rw[this]
     exact .c
   ·rw[if_neg hin] at hx
    have:(putCells (fun(b:UInt8)=>Value.int .u8 (b.toNat:Int)) 0 dk cur).getD (i*1+j) undef=cur.getD (i*1+j) undef:=by
     rw[hf i hi] at hx
     cases j with
     |succ j=>cases hx
     |zero=>
      simp only[putCells,Nat.mul_one,Nat.add_zero]
      rw[Array.getD_eq_getD_getElem?,Array.getD_eq_getD_getElem?]
      simp[hi2,hdk,hin]
    rw[this]
    exact hcell i j x hi hx) (by omega)
 have s5:=s4.called (w':=(putRow (fun(b:UInt8)=>Value.int .u8 (b.toNat:Int)) w blk 0 dk).drewN m) ⟨rfl,rfl,rfl,Nat.le_refl _,fun _ _ _=>rfl,fun _=>by simp[World.drewN]⟩
 refine hK _ _ (h _ _ ⟨ρ,?_⟩)
 rw[hd4]
 exact s5.put l4 .junk
end
end Go.Eng
end
section
namespace Go.Eng
open Go.Sort Go.Lib
theorem run_append_str_at {P:Program} {w:World} (t u ty e:TypeId) (i:TypeInfo) (ht:P.underlying t=some (.slice e)) (hu:P.underlying u=some .string) (hi:P.info? e=some i) (hz:i.zero=some (.int .u8 0))
  (hsize:i.size=1) (hby:i.bytes=1) (v:Value) (n:Nat) (xs:List Value) (hown:w.ownsRow 0 e 1 v n xs) (s:ByteArray) (hb:n+s.size≤140737488355328):
  ∃v' w',(Builtin.append_ #[t,u] ty #[v,.string s]).run P w=.ok v' w'∧w'.ownsRow 0 e 1 v' (n+s.size) (xs++strCells s)∧w.grownBy w' v.ownBlock∧(v'.ownBlock=v.ownBlock∨∀b,v'.ownBlock=some b→w.heap.size≤b):=by
 obtain⟨v',w',h1,h2,h3,_⟩:=run_append_own_string (P:=P) (w:=w) 0 t u ty e i ht hu hi hz hsize hby v n xs hown s (by simp only[maxLen];omega) hb (Nat.zero_le _)
 refine⟨v',w',h1,h2,h3,?_⟩
 have hxl:xs.length=n:=by simpa using hown.1
 rcases hown.2 with⟨rfl,rfl⟩|⟨g,cap,cur,rfl,hbg,hg,hnc,hcm,hcs,htake⟩
 ·by_cases hm:s.size=0
  ·left
   have hf:=run_firstCells_string (P:=P) (w:=w) 1 s
   rw[hm] at hf
   have:(Builtin.append_ #[t,u] ty #[.slice none 0 0,.string s]).run P w=.ok (.slice none 0 0) w:=by
    simp[Builtin.append_,run_underlying ht,run_underlying hu,sizeOf,typeInfo,hi,hsize,Builtin.lenOf,hm,hf]
   rw[this] at h1
   injection h1 with h1
   rw[←h1]
  ·right
   have hr:=run_append_nil_string (P:=P) w t u ty e i (.int .u8 0) ht hu hi hz s (by omega) (by omega) (by rw[hby];omega)
   rw[hr] at h1
   injection h1 with h1
   rw[←h1]
   intro b hb'
   simp[Value.ownBlock] at hb'
   omega
 ·by_cases hroom:n+s.size≤cap
  ·have hcs':cur.size=cap:=by simpa using hcs
   have hr:=run_append_room_string (P:=P) (w:=w) t u ty e i ht hu hi hsize g n cap cur hg s hroom (by omega)
   rw[hr] at h1
   injection h1 with h1
   rw[←h1]
   exact .inl rfl
  ·have holds:∀j u,xs[j]?=some u→w.cell? ((⟨g,0,none⟩:Addr).add j)=some u:=hown.cells (g:=g) rfl
   have hr:=run_append_grow_string (P:=P) (w:=w) t u ty e i (.int .u8 0) ht hu hi hz ⟨g,0,none⟩ n cap xs (by rw[hsize];simpa using hxl) holds s (by omega) (by omega) (by rw[hby];exact growslice_fits (by omega) (by omega))
   rw[hr] at h1
   injection h1 with h1
   rw[←h1]
   right
   intro b hb'
   simp[Value.ownBlock] at hb'
   omega
section
variable {E:Env} {st:ST} {Q:Exit→ST→Prop} {T:TE} {ops:Array Oper} {rest:List Oper} {o o1 o2:Oper}
def byteAt (b:ByteArray) (i:Nat):List AV:=[.c (.int .u8 (b.data.toList.getD i 0).toNat)]
theorem strCells_at (b:ByteArray) {i:Nat} (h:i<b.size):(strCells b).getD i undef=.int .u8 (b.data.toList.getD i 0).toNat:=by
 have h':i<b.data.size:=h
 simp[strCells,List.getD_eq_getElem?_getD,Array.getElem?_eq_getElem h']
structure ByteTy (T:TE) (t e:Nat):Prop where
 s:∃ti,T.find t=some ti∧ti.kind=.slice e
 e:∃te,T.find e=some te∧te.kind=.int .u8∧te.size=1∧te.bytes=1∧te.zero=[.int .u8 0]
theorem ByteTy.ok {t e:Nat} (h:ByteTy T t e) (hT:TOk E.P T):E.P.underlying t=some (.slice e)∧E.P.underlying e=some (.int .u8)∧∃i,E.P.info? e=some i∧i.size=1∧i.bytes=1∧i.zero=some (.int .u8 0):=by
 obtain⟨ti,h1,h2⟩:=h.s
 obtain⟨te,h3,h4,h5,h6,h7⟩:=h.e
 have k1:=(hT t ti h1).kind
 rw[h2] at k1
 have k2:=(hT e te h3).kind
 rw[h4] at k2
 obtain⟨i,z,g1,g2,g3,g4,g5⟩:=(hT e te h3).info
 obtain⟨j,q1,q2⟩:=(hT e te h3).zvEq
 rw[g1] at q1
 injection q1 with q1
 subst q1
 refine⟨k1,k2,i,g1,by rw[g2,h5],by rw[g3,h6],?_⟩
 rw[q2]
 simp[TI.zv,h4,TK.agg,h7]
theorem XL.appendStr (hT:TOk E.P T) {sx x:Operand} {d k s n e t u:Nat} {f:Nat→List AV} {b:ByteArray} {tu:TI} (ho:o.op=.call {callee:=.builtin .append,args:=#[sx,x],argTypes:=#[t,u]}) (hg:o.guard=none) (hd:o.dst=some d) (hdl:Nat.blt d st.nt=true)
  (ht:ByteTy T t e) (hu:T.find u=some tu) (huk:tu.kind=.string) (hs:st.ev sx=.vec k s) (hx:st.ev x=.c (.string b)) (hob:st.ob k=some (.vec e 1 s n f)) (hb:n+b.size≤140737488355328)
  (h:XL E ops Q rest {st with fr:=upd st.fr d (.vec k (s+1)),ob:=upd st.ob k (some (.vec e 1 (s+1) (n+b.size) (catF n f (byteAt b))))}):XL E ops Q (o::rest) st:=by
 refine XL.any hg fun a w ρ hsat=>?_
 obtain⟨k1,_,i,g1,g2,g3,g4⟩:=ht.ok hT
 have k2:=(hT u tu hu).kind
 rw[huk] at k2
 have ev1:=hsat.ev sx
 rw[hs] at ev1
 obtain⟨_,_,_,_,xs,ho',hk',hown,hf0,hr0⟩:=hsat.live_vec (by simp[live,hob]) ev1
 rw[hob] at ho'
 injection ho' with ho'
 injection ho' with p1 p2 _ p4 p5
 subst p1 p2 p4 p5
 have ev2:=hsat.ev x
 rw[hx] at ev2
 have ev2:=ev2.c_inv
 obtain⟨z,w',c1,c2,c3,c4⟩:=run_append_str_at (P:=E.P) (w:=w) t u o.type e i k1 k2 g1 g4 g2 g3 _ n xs hown b hb
 have hxl:xs.length=n:=by simpa using hown.1
 refine⟨z,w',by simp[execOp,ho,resolve,invoke,builtin,ev2,c1],_,⟨upd ρ k (some (.hdr (s+1) z)),?_⟩,h⟩
 have s1:=hsat.grow (n':=n+b.size) (f':=catF n f (byteAt b)) hob (fun i hi=>?_) hk' c2 c3 (run_drawn _ c1) c4 (fun i j x hi hx=>?_)
 ·rw[hd]
  exact s1.put (Nat.lt_of_succ_le (Nat.le_of_ble_eq_true hdl)) (.vec (upd_same _ _ _))
 ·unfold catF
  cases hlt:Nat.blt i n with
  |true=>exact hf0 i (Nat.lt_of_succ_le (Nat.le_of_ble_eq_true hlt))
  |false=>rfl
 ·unfold catF at hx
  cases hlt:Nat.blt i n with
  |true=>
   have hin:i<n:=Nat.lt_of_succ_le (Nat.le_of_ble_eq_true hlt)
   rw[hlt,cond_true] at hx
   have hj:j<1:=by
    have:=(List.getElem?_eq_some_iff.1 hx).1
    rwa[hf0 i hin] at this
   have:=hr0 i j x hin hx
   simpa[List.getD,List.getElem?_append_left (show i+j<xs.length by omega)] using this
  |false=>
   have hin:¬i<n:=fun hh=>by rw[show Nat.blt i n=true from Nat.ble_eq_true_of_le hh] at hlt;cases hlt
   rw[hlt,cond_false] at hx
   cases j with
   |succ j=>cases hx
   |zero=>
    injection hx with hx
    subst hx
    have h1:=strCells_at b (i:=i-n) (by omega)
    have:(xs++strCells b).getD (i*1+0) undef=(strCells b).getD (i-n) undef:=by
     simp[List.getD_eq_getElem?_getD,List.getElem?_append_right (show xs.length≤i by omega),hxl]
    rw[this,h1]
    exact .c
theorem XL.sliceOwn (hT:TOk E.P T) {t d k s e tv sz n m h:Nat} {x hi:Operand} {kk:IntKind} {f:Nat→List AV} {ti te:TI} (ho:o.op=.slice t x none (some hi) none) (hg:o.guard=none) (hd:o.dst=some d) (hdl:Nat.blt d st.nt=true)
  (ht:T.find t=some ti) (hk:ti.kind=.array n e) (he:T.find e=some te) (hsz:te.size=sz) (hx:st.ev x=.vptr k s sz 0 0) (hh:st.ev hi=.c (.int kk h)) (hob:st.ob k=some (.vec tv sz s n f)) (hN:E.N=m) (hm:Nat.ble m k=true) (hle:h≤n) (hn0:0<n)
  (hr:XL E ops Q rest {st.frozen k s sz n f with fr:=upd (st.frozen k s sz n f).fr d (.rs sz h f)}):XL E ops Q (o::rest) st:=by
 refine XL.any hg fun a w ρ hs=>?_
 have ev1:=hs.ev x
 rw[hx] at ev1
 obtain⟨_,_,_,_,blk,cap,cur,ho',hk',hev7,_,hnc,hcm,hhp,hcs,_,hcell⟩:=hs.live_vptr (by simp[live,hob]) ev1
 rw[hob] at ho'
 injection ho' with ho'
 injection ho' with q1 q2 _ q4 q5
 subst q1 q2 q4 q5
 have ev2:=hs.ev hi
 rw[hh] at ev2
 have ev2:=ev2.c_inv
 have hkd:=(hT t ti ht).kind
 rw[hk] at hkd
 simp only[KindOk] at hkd
 have hso:=(hT e te he).run_sizeOf w
 obtain⟨ρ',s1,hsub⟩:=Sub.frozen hN hob hm a w ρ hs
 have hk0:ρ' k=none:=s1.no k (by simp[ST.frozen,upd_same])
 have hG:∀b,E.good w ρ b→E.good w ρ' b:=fun b ⟨g1,g2,g3⟩=>⟨g1,g2,fun j y hj=>g3 j y (hsub j y hj)⟩
 have r1:R w (E.good w ρ') ρ' (.rs sz n f) (.slice (some ⟨blk,0,none⟩) n cap):=row_frozen hs hob (.vec hk') hG fun b hv g1 g2 j y hj hy=>by
  have hjk:j≠k:=fun e=>by subst e;rw[hk0] at hj;cases hj
  exact hjk (hs.dis j k y _ b (hsub j y hj) g1 hy g2)
 refine⟨.slice (some ⟨blk,0,none⟩) h n,w,?_,_,⟨ρ',?_⟩,hr⟩
 ·simp at hev7
  simp[execOp,ho,ev2,hev7,Instr.sliceAt,run_underlying hkd,Instr.sureAddr,Instr.sliceBounds,Instr.sliceBound,asIntOf_int,show(h:Int)≤n by omega,hso,Result.andThen,Addr.add]
 ·rw[hd]
  refine s1.put (Nat.lt_of_succ_le (Nat.le_of_ble_eq_true hdl)) ?_
  obtain⟨A',cap',he',hn',hm',hf',hc'⟩:=r1.rs_inv
  injection he' with e1 _ e3
  subst e1 e3
  refine R.rs_mk (by omega) (by omega) (fun i hi=>hf' _ (by omega)) fun h0=>?_
  obtain⟨ad,e4,hg4,hcc⟩:=hc' (by omega)
  exact⟨ad,e4,hg4,fun i hi=>hcc i (by omega)⟩
end
end Go.Eng
end
namespace Go.Proofs.YtgpkkllbejgmlaaGreatDoor
section
open Go.Eng
theorem tdiv_nn (a b:Nat):Int.tdiv (a:Int) (b:Int)=((a/b:Nat):Int):=rfl
theorem tmod_nn (a b:Nat):Int.tmod (a:Int) (b:Int)=((a%b:Nat):Int):=rfl
theorem cI {k:IntKind} {a b:Int} (h:a=b):AV.c (.int k a)=AV.c (.int k b):=by rw[h]
theorem cB {a b:Bool} (h:a=b):AV.c (.bool a)=AV.c (.bool b):=by rw[h]
theorem magnitude_ok (n:Int) (h:inK .i64 n):Does Tryz.prog 156 [.c (.int .i64 n)] (.c (.int .u64 (n.natAbs:Int))):=by
 refine Does.mk (fun _=>false) TT_ok Tryz.func156 rfl (by kernel_rfl) Tryz.ntmps156 rfl rfl fun E hT hE hN hR=>?_
 have hm:=mixO hE
 simp only[inK] at h
 refine XK.w ?_
 refine XK.c ?_ ?_<;>intro hb
 ·have hn:n<0:=by simpa using hb
  refine XK.w ?_
  refine XK.w ?_
  exact XK.ret (RetQ.ret rfl rfl (cI (by omega)))
 ·have hn:¬n<0:=by simpa using hb
  refine XK.w ?_
  refine XK.w ?_
  exact XK.ret (RetQ.ret rfl rfl (cI (by omega)))
def gcdTo (g:Nat→Nat):Nat→Nat
 |0=>0
 |n+1=>Nat.gcd (gcdTo g n) (g n)
theorem divisor_ok (g:Nat→Nat) (n:Nat) (hg:∀i,i<n→g i≤18446744073709551615):Does Tryz.prog 155 [.rs 1 n (fun i=>[.c (.int .u64 (g i))])] (.c (.int .u64 (gcdTo g n:Nat))):=by
 refine Does.mk (fun _=>false) TT_ok Tryz.func155 rfl (by kernel_rfl) Tryz.ntmps155 rfl rfl fun E hT hE hN hR=>?_
 have hm:=mixO hE
 refine XK.fact (Sat.rs_len (j:=0) rfl) fun hlen=>?_
 have hn:=hlen.1
 have hG:∀i,i≤n→gcdTo g i≤18446744073709551615:=by
  intro i hi
  induction i with
  |zero=>simp[gcdTo]
  |succ i ih=>
   have h1:=ih (by omega)
   have h2:=hg i (by omega)
   simp only[gcdTo]
   by_cases h0:gcdTo g i=0
   ·rw[h0];simpa using h2
   ·exact Nat.le_trans (Nat.gcd_le_left _ (Nat.pos_of_ne_zero h0)) h1
 refine XK.w ?_
 refine XK.loop (ι:=Nat) (fun i=>ST.of [(3,.c (.int .u64 (gcdTo g i))),(6,.rs 1 n (fun i=>[.c (.int .u64 (g i))])),(7,.c (.int .i64 n)),(8,.c (.int .i64 i))] [] 1000 20 (fun _=>false))
  (fun i=>i≤n) (fun i=>n-i) 0 (by omega) (Weak.of hN rfl rfl rfl ⟨rfl,⟨rfl,rfl,fun _ _=>rfl⟩,rfl,rfl⟩ trivial) fun i hi=>?_
 refine XK.w ?_
 refine XK.c ?_ ?_<;>intro hb
 ·have hlt:i<n:=by simpa using hb
  refine XK.w ?_
  refine XK.w ?_
  refine XK.w ?_
  refine XK.loop (ι:=Nat×Nat) (fun p=>ST.of [(3,.c (.int .u64 p.1)),(5,.c (.int .u64 p.2)),(6,.rs 1 n (fun i=>[.c (.int .u64 (g i))])),(7,.c (.int .i64 n)),(8,.c (.int .i64 i))] [] 1000 20 (fun _=>false))
   (fun p=>p.1≤18446744073709551615∧p.2≤18446744073709551615∧Nat.gcd p.1 p.2=gcdTo g (i+1)) (fun p=>p.2) (gcdTo g i,g i) ⟨hG i (by omega),hg i hlt,rfl⟩
   (Weak.of hN rfl rfl rfl ⟨rfl,rfl,⟨rfl,rfl,fun _ _=>rfl⟩,rfl,rfl⟩ trivial) fun p hp=>?_
  obtain⟨x,y⟩:=p
  obtain⟨h1,h2,h3⟩:=hp
  simp only at h1 h2 h3
  refine XK.w ?_
  refine XK.c ?_ ?_<;>intro hb
  ·have hy:y≠0:=by simpa using hb
   refine XK.w ?_
   refine XK.w ?_
   refine XK.w ?_
   refine XK.inv ⟨(y,x%y),⟨h2,?_,?_⟩,Weak.of hN rfl rfl rfl ⟨?_,?_,⟨rfl,rfl,fun _ _=>rfl⟩,rfl,rfl⟩ trivial,?_⟩
   ·exact Nat.le_trans (Nat.le_of_lt (Nat.mod_lt _ (Nat.pos_of_ne_zero hy))) h2
   ·rw[←h3,Nat.gcd_comm x y,Nat.gcd_rec y x,Nat.gcd_comm]
   ·rfl
   ·rfl
   ·exact Nat.mod_lt _ (Nat.pos_of_ne_zero hy)
  ·have hy:y=0:=by simpa using hb
   subst hy
   refine XK.w ?_
   refine XK.w ?_
   refine XK.inv ⟨i+1,hlt,Weak.of hN rfl rfl rfl ⟨?_,⟨rfl,rfl,fun _ _=>rfl⟩,rfl,rfl⟩ trivial,?_⟩
   ·rw[←h3];simp[AvIs];rfl
   ·omega
 ·have:i=n:=by
   have:¬i<n:=by simpa using hb
   omega
  subst this
  refine XK.w ?_
  exact XK.ret (RetQ.ret rfl rfl rfl)
end
section
open Go.Eng
theorem gcd2 (a b:Nat):gcdTo (fun i=>if i=0 then a else b) 2=Nat.gcd a b:=by simp[gcdTo]
theorem valid_ok (q:Q) (h:qW q):Does Tryz.prog 116 [qv q] (.c (.bool (qOk q))):=by
 refine Does.mk (fun _=>false) TT_ok Tryz.func116 rfl (by kernel_rfl) Tryz.ntmps116 rfl rfl fun E hT hE hN hR=>?_
 have hm:=mixO hE
 obtain⟨n,d⟩:=q
 obtain⟨h1,h2⟩:=h
 simp only[inK] at h1 h2
 refine XK.c ?_ ?_<;>intro hb
 ·refine XK.w ?_
  refine XK.q ?_
  congr 2
  simp only[Bool.or_eq_true,decide_eq_true_eq] at hb
  simp only[qOk]
  symm
  simp only[decide_eq_false_iff_not]
  omega
 ·simp only[Bool.or_eq_false_iff,decide_eq_false_iff_not] at hb
  refine XK.s ?_
  refine XD.callL hE rfl rfl rfl rfl trivial rfl (magnitude_ok n h1) ?_ rfl ?_
  ·exact rfl
  refine XD.g ?_
  refine XD.callL hE rfl rfl rfl rfl trivial rfl (magnitude_ok d h2) ?_ rfl ?_
  ·exact rfl
  refine XD.g ?_
  refine XD.callL hE rfl rfl rfl rfl trivial rfl (divisor_ok (fun i=>if i=0 then n.natAbs else d.natAbs) 2 (fun i hi=>by split<;>omega)) ?_ rfl ?_
  ·refine⟨rfl,rfl,fun i hi=>?_⟩
   match i,hi with
   |0,_=>rfl
   |1,_=>rfl
  rw[gcd2]
  refine XD.e ?_
  refine XK.w ?_
  refine XK.q ?_
  congr 2
  rw[Bool.eq_iff_iff,qOk_iff]
  simp only[beq_iff_eq]
  omega
end
section
open Go.Eng
end
section
open Go.Eng
theorem isIndex_ok (n:Nat) (t:Nat→U) (i:Int):Does Tryz.prog 154 [tabV n t,.c (.int .i64 i)] (.c (.bool (decide (0≤i)&&decide (i<n)))):=by
 refine Does.mk (fun _=>false) TT_ok Tryz.func154 rfl (by kernel_rfl) Tryz.ntmps154 rfl rfl fun E hT hE hN hR=>?_
 have hm:=mixO hE
 refine XK.w ?_
 refine XK.q ?_
 rfl
set_option maxHeartbeats 1000000 in
theorem uvalid_ok (n:Nat) (t:Nat→U) (i:Nat) (hi:i<n) (hw:∀j,j<n→uW (t j)):Does Tryz.prog 115 [tabV n t,.c (.int .i64 i)] (.c (.bool (uOkB t n i))):=by
 refine Does.mk (fun _=>false) TT_ok Tryz.func115 rfl (by kernel_rfl) Tryz.ntmps115 rfl rfl fun E hT hE hN hR=>?_
 have hm:=mixO hE
 refine XK.fact (Sat.rs_len (j:=0) rfl) fun hlen=>?_
 have hn:=hlen.1
 have hui:=hw i hi
 refine XK.w ?_
 refine XK.c ?_ ?_<;>intro hb
 ·refine XK.w ?_
  refine XK.q ?_
  refine cB ?_
  symm
  rw[uOkB_false]
  simp only[Bool.or_eq_true,decide_eq_true_eq,bytes_beq] at hb
  rintro⟨⟨h1,h2,_⟩,_⟩
  rcases hb with hb|hb
  ·omega
  ·exact h2 hb
 ·simp only[Bool.or_eq_false_iff,decide_eq_false_iff_not,bytes_bne] at hb
  obtain⟨hb1,hb2⟩:=hb
  have hb2:(t i).name≠emptyName:=hb2
  refine XK.w ?_
  refine XK.w ?_
  refine XK.loop (ι:=Nat) (fun j=>ST.of [(0,tabV n t),(1,.c (.int .i64 i)),(5,.ptr 95 0),(21,.rs 5 i (fun j=>uc (t j))),(22,.c (.int .i64 i)),(23,.c (.int .i64 j))] [(95,.cells 159 (uc (t i)))] 1000 90 (fun _=>false))
   (fun j=>j≤i∧∀k,k<j→(t k).name≠(t i).name) (fun j=>i-j) 0 ⟨by omega,fun k hk=>absurd hk (by omega)⟩
   (Weak.of hN rfl rfl rfl ⟨AvIs.refl _,rfl,rfl,⟨rfl,rfl,fun j hj=>rfl⟩,rfl,rfl⟩ ⟨rfl,rfl⟩) fun j hj=>?_
  obtain⟨hj1,hj2⟩:=hj
  refine XK.c ?_ ?_<;>intro hb
  ·have hlt:j<i:=by simpa using hb
   refine XK.w ?_
   refine XK.c ?_ ?_<;>intro hb
   ·refine XK.w ?_
    refine XK.q ?_
    refine cB ?_
    symm
    rw[uOkB_false]
    rintro⟨⟨h1,h2,h3⟩,_⟩
    exact h3 j hlt (bytes_beq.1 hb)
   ·refine XK.w ?_
    refine XK.inv ⟨j+1,⟨hlt,fun k hk=>?_⟩,Weak.of hN rfl rfl rfl ⟨AvIs.refl _,rfl,rfl,⟨rfl,rfl,fun j hj=>rfl⟩,rfl,rfl⟩ ⟨rfl,rfl⟩,by omega⟩
    by_cases hkj:k=j
    ·subst hkj;exact bytes_bne.1 hb
    ·exact hj2 k (by omega)
  ·have hij:j=i:=by
    have:¬j<i:=by simpa using hb
    omega
   subst hij
   refine XK.r ?_
   refine XL.callGA hE rfl rfl rfl rfl rfl rfl rfl rfl (valid_ok (t j).fac hui.2.2) rfl ?_
   refine XL.e ?_
   refine XK.c ?_ ?_<;>intro hb
   ·refine XK.w ?_
    refine XK.q ?_
    refine cB ?_
    symm
    rw[uOkB_false]
    rintro⟨_,⟨h1,h2,h3⟩,_⟩
    simp only[Bool.or_eq_true,Bool.and_eq_true,bne_iff_ne,Bool.not_eq_true',decide_eq_true_eq] at hb
    rcases hb with(⟨h4,h5⟩|h4)|h4
    ·rcases h1 with h1|h1
     ·exact h4 h1
     ·exact h5 h1
    ·rw[h2] at h4;cases h4
    ·omega
   ·refine XK.w ?_
    refine XK.weak (Weak.of (L:=[(0,tabV n t),(1,.c (.int .i64 j)),(5,.ptr 95 0)]) (O:=[(95,.cells 159 (uc (t j)))]) (nx:=2000) (nt:=90) (md:=fun _=>false) hN rfl rfl rfl ⟨AvIs.refl _,rfl,rfl⟩ ⟨rfl,rfl⟩) ?_
    refine XK.drawn hm ?_
    refine XD.go hT rfl rfl rfl rfl trivial ?_
    refine XD.callL hE rfl rfl rfl rfl trivial rfl (isIndex_ok n t (t j).base) ?_ rfl ?_
    ·exact⟨AvIs.refl _,rfl⟩
    refine XD.go hT rfl rfl rfl rfl ?_ ?_
    ·(first|exact trivial|(simp[AllP,impG];done)|(simp only[AllP,List.append,List.nil_append,List.cons_append,inK,tdiv_nn,tmod_nn,Int.toNat_natCast];omega)|(simp[AllP,impG,inK,tdiv_nn,tmod_nn];omega)|((repeat (first|(focus (first|omega|(intro i hi;first|rfl|(cases Nat.lt_one_iff.1 hi;rfl)|(rcases i with _|_|_|_|i<;>first|rfl|(exfalso;omega)))|(simp<;>omega)))|refine⟨?_,?_⟩));done)|(simp only[AllP,impG,inK];grind))
    refine XD.fin (by kernel_rfl) ?_
    refine XK.c ?_ ?_<;>intro hb
    ·refine XK.w ?_
     refine XK.q ?_
     refine cB ?_
     symm
     rw[uOkB_false]
     rintro⟨_,_,⟨⟨h1,h2⟩,h3,h4⟩,_⟩
     simp[h1,h2,h3,h4] at hb
    ·simp at hb
     obtain⟨⟨⟨h1,h2⟩,h3⟩,h4⟩:=hb
     refine XK.w ?_
     refine XK.q ?_
     refine cB ?_
     rw[Bool.eq_iff_iff,uOkB_iff]
     simp only[Bool.or_eq_false_iff,Bool.and_eq_false_imp,bne_iff_ne,ne_eq,bne_eq_false_iff_eq,Bool.not_eq_false',decide_eq_false_iff_not] at hb
     obtain⟨⟨g1,g2⟩,g3⟩:=hb
     simp only[uOk,Bool.or_eq_true,bne_iff_ne,Bool.and_eq_true,beq_iff_eq,Prod.ext_iff]
     constructor
     ·intro h
      exact⟨⟨by omega,hb2,hj2⟩,⟨by omega,g2,by omega⟩,⟨⟨h1,h2⟩,h3,h4⟩,h⟩
     ·rintro⟨_,_,_,h⟩
      exact h
end
section
open Go.Eng Go.RowKit Go.Lib
end
section
open Go.Eng
def P3 (x:Nat→Nat):Nat:=x 0*x 1*x 2
structure Half (N D B:Nat) (x y:Nat→Nat) (i j:Nat):Prop where
 pos:∀k,k<3→0<y k
 px:∀k,0<k→k<3→0<x k
 bx:∀k,k<3→x k≤B
 by_:∀k,k<3→y k≤B
 eq:P3 x*D=P3 y*N
 done:∀i' j',i'<3→j'<3→(i'<i∨i'=i∧j'<j)→Nat.gcd (x i') (y j')=1
end
section
open Go.Eng
end
section
open Go.Eng
end
section
open Go.Eng
noncomputable def validR (t:Nat→U) (n:Nat):Int×Bool:=match(List.range n).find? (fun i=>!uOkB t n i) with
 |some i=>((i:Int),false)
 |none=>(-1,true)
theorem qvalid_ok (n:Nat) (t:Nat→U) (hw:∀j,j<n→uW (t j)):Does Tryz.prog 74 [tabV n t] (.tup [.c (.int .i64 (validR t n).1),.c (.bool (validR t n).2)]):=by
 refine Does.mk (fun _=>false) TT_ok Tryz.func74 rfl (by kernel_rfl) Tryz.ntmps74 rfl rfl fun E hT hE hN hR=>?_
 have hm:=mixO hE
 refine XK.fact (Sat.rs_len (j:=0) rfl) fun hlen=>?_
 have hn:=hlen.1
 refine XK.w ?_
 refine XK.loop (ι:=Nat) (fun i=>ST.of [(0,tabV n t),(5,tabV n t),(6,.c (.int .i64 n)),(7,.c (.int .i64 i))] [] 1000 16 (fun _=>false))
  (fun i=>i≤n∧∀j,j<i→uOkB t n j=true) (fun i=>n-i) 0 ⟨by omega,fun j hj=>by omega⟩ (Weak.of hN rfl rfl rfl ⟨AvIs.refl _,AvIs.refl _,rfl,rfl⟩ trivial) fun i hi=>?_
 obtain⟨hi1,hi2⟩:=hi
 refine XK.c ?_ ?_<;>intro hlt<;>try simp at hlt
 ·refine XK.r ?_
  refine XL.callL hE rfl rfl rfl rfl trivial rfl (uvalid_ok n t i hlt hw) ?_ rfl ?_
  ·exact⟨AvIs.refl _,rfl⟩
  refine XL.e ?_
  refine XK.c ?_ ?_<;>intro hb<;>try simp at hb
  ·refine XK.w ?_
   refine XK.q ?_
   have:(List.range n).find? (fun i=>!uOkB t n i)=some i:=by
    rw[List.find?_range_eq_some]
    exact⟨by simp[hb],by simpa using hlt,fun j hj=>by simp[hi2 j hj]⟩
   simp only[validR,this]
  ·refine XK.w ?_
   refine XK.inv ⟨i+1,⟨hlt,fun j hj=>?_⟩,Weak.of hN rfl rfl rfl ⟨AvIs.refl _,AvIs.refl _,rfl,rfl⟩ trivial,by omega⟩
   by_cases h:j=i
   ·subst h;exact hb
   ·exact hi2 j (by omega)
 ·refine XK.w ?_
  refine XK.q ?_
  have:(List.range n).find? (fun i=>!uOkB t n i)=none:=by
   rw[List.find?_range_eq_none]
   exact fun j hj=>by simp[hi2 j (by omega)]
  simp only[validR,this]
end
end Go.Proofs.YtgpkkllbejgmlaaGreatDoor
