import Derived.Test.YtgpkkllbejgmlaaGreatDoorZz14
import Derived.Test.YtgpkkllbejgmlaaGreatDoorZz15
set_option linter.unusedSimpArgs false
set_option linter.unusedVariables false
set_option maxRecDepth 10000
namespace Go.Proofs.YtgpkkllbejgmlaaGreatDoor
section
open Go.Eng
theorem kindW {k:K} {x:Cl} (h:kindB k x=true):(x.kind=4∧x.role=-1∧x.need=1∧x.grace=0∧x.final=false)∨
  ((0≤x.role∧x.role<k.holders.length)∧natB k x.act=false∧((x.kind=1∧(1≤x.need∧x.need≤9)∧0≤x.grace∧x.grace≤400)∨(x.kind=2∧x.need=1∧x.grace=0)∨(x.kind=3∧x.need=1∧x.grace=0∧x.final=false))):=by
 unfold kindB at h
 by_cases h4:x.kind=4
 ·rw[if_pos h4] at h
  simp only[Bool.and_eq_true,beq_iff_eq,Bool.not_eq_true'] at h
  exact .inl ⟨h4,h.1.1.1,h.1.1.2,h.1.2,h.2⟩
 ·rw[if_neg h4] at h
  by_cases h0:(!movB k x.role||natB k x.act)=true
  ·rw[if_pos h0] at h;cases h
  ·rw[if_neg h0] at h
   simp only[Bool.or_eq_true,Bool.not_eq_true',not_or,Bool.not_eq_false,Bool.not_eq_true] at h0
   have hm:=h0.1
   simp only[movB,Bool.and_eq_true,decide_eq_true_eq] at hm
   refine .inr ⟨hm,h0.2,?_⟩
   by_cases h1:x.kind=1
   ·rw[if_pos h1] at h
    simp only[Bool.and_eq_true,decide_eq_true_eq] at h
    exact .inl ⟨h1,h.1.1,h.1.2,h.2⟩
   ·rw[if_neg h1] at h
    by_cases h2:x.kind=2
    ·rw[if_pos h2] at h
     simp only[Bool.and_eq_true,beq_iff_eq] at h
     exact .inr (.inl ⟨h2,h⟩)
    ·rw[if_neg h2] at h
     by_cases h3:x.kind=3
     ·rw[if_pos h3] at h
      simp only[Bool.and_eq_true,beq_iff_eq,Bool.not_eq_true'] at h
      exact .inr (.inr ⟨h3,h.1.1,h.1.2,h.2⟩)
     ·rw[if_neg h3] at h;cases h
theorem actF {k:K} {a:Act} (h:actB k a=true):(a.role=-1∨(0≤a.role∧a.role<k.holders.length))∧(a.kind=1∧a.give=0∧(a.to=-1∨(0≤a.to∧a.to<k.holders.length))∨
  (a.kind=2∨a.kind=3)∧(0≤a.role∧a.role<k.holders.length)∧(0≤a.give∧a.give<k.holders.length)∧0≤a.to∧a.to<k.parties):=by
 unfold actB at h
 split at h
 ·rename_i h1
  simp only[Bool.and_eq_true,beq_iff_eq,Bool.or_eq_true,movB,decide_eq_true_eq] at h
  exact⟨.inl h.1.1.1.1.2,.inl ⟨h.1.1.1.1.1,h.1.1.1.2,h.1.1.2⟩⟩
 ·rename_i h1
  simp only[movB,Bool.not_eq_true',Bool.not_eq_false,Bool.and_eq_true,decide_eq_true_eq] at h1
  refine⟨.inr h1,?_⟩
  split at h
  ·rename_i h2
   split at h
   ·cases h
   ·rename_i h3
    simp only[not_or,not_and,Decidable.not_not,movB,Bool.not_eq_false,Bool.and_eq_true,decide_eq_true_eq] at h3
    refine .inl ⟨h2,h3.1,?_⟩
    by_cases h4:a.to=-1
    ·exact .inl h4
    ·exact .inr (h3.2 h4)
  ·split at h
   ·rename_i h2
    simp only[Bool.and_eq_true,movB,decide_eq_true_eq] at h
    exact .inr ⟨h2,h1,h.1.1.1.1,h.1.1.1.2,h.1.1.2⟩
   ·cases h
structure RunF (k:K) (x:Cl) (m:Mk):Prop where
 waived:x.waived=false
 left:1≤m.left
 pau:m.paused=true→x.pause≠-1
 got:m.got=0∨(x.kind=1∧0≤m.got∧m.got<x.need)
 bear:x.kind=4∧m.bearer=-1∨x.kind≠4∧0≤m.bearer∧m.bearer<k.parties
 stat:m.status=1∧m.left≤x.after∨m.status=2∧x.kind=1∧m.left≤x.grace
theorem runB_iff {k:K} {x:Cl} {m:Mk}:runB k x m=true↔x.waived=false∧1≤m.left∧(m.paused=true→x.pause≠-1)∧(m.got=0∨(x.kind=1∧0≤m.got∧m.got<x.need))∧(x.kind=4∧m.bearer=-1∨x.kind≠4∧0≤m.bearer∧m.bearer<k.parties):=by
 unfold runB
 constructor
 ·intro h
  split at h
  ·cases h
  ·rename_i h1
   simp only[Bool.or_eq_true,Bool.and_eq_true,decide_eq_true_eq,beq_iff_eq,not_or,not_and,Bool.not_eq_true] at h1
   split at h
   ·cases h
   ·rename_i h2
    simp only[Bool.or_eq_true,Bool.and_eq_true,decide_eq_true_eq,bne_iff_ne,ne_eq,not_or,not_and,Decidable.not_not] at h2
    refine⟨h1.1.1,by omega,h1.2,?_,?_⟩
    ·by_cases h3:m.got=0
     ·exact .inl h3
     ·have:=h2 h3
      exact .inr ⟨this.1.1,by omega,by omega⟩
    ·split at h
     ·rename_i h4
      exact .inl ⟨h4,by simpa using h⟩
     ·rename_i h4
      simp only[Bool.and_eq_true,decide_eq_true_eq] at h
      exact .inr ⟨h4,h⟩
 ·rintro⟨h1,h2,h3,h4,h5⟩
  rw[if_neg,if_neg]
  ·rcases h5 with⟨h5,h6⟩|⟨h5,h6⟩
   ·rw[if_pos h5];simpa using h6
   ·rw[if_neg h5];simpa using h6
  ·simp only[Bool.or_eq_true,Bool.and_eq_true,decide_eq_true_eq,bne_iff_ne,ne_eq,not_and]
   omega
  ·simp only[Bool.or_eq_true,Bool.and_eq_true,decide_eq_true_eq,beq_iff_eq,h1]
   rintro ((h|h)|⟨h,h'⟩)
   ·cases h
   ·omega
   ·exact h3 h h'
theorem runsM_iff {m:Mk}:runsM m=true↔m.status=1∨m.status=2:=by simp[runsM]
theorem markB_run {k:K} {i:Nat} {m:Mk} (hr:runsM m=true):markB k i m=true↔RunF k (clAt k i) m:=by
 have hr:=runsM_iff.1 hr
 unfold markB
 rw[if_neg (by omega)]
 by_cases h1:m.status=1
 ·rw[if_pos h1]
  simp only[Bool.and_eq_true,decide_eq_true_eq,runB_iff]
  constructor
  ·rintro⟨a,b,c,d,e,f⟩;exact⟨b,c,d,e,f,.inl ⟨h1,a⟩⟩
  ·intro h;exact⟨by have:=h.stat;omega,h.waived,h.left,h.pau,h.got,h.bear⟩
 ·rw[if_neg h1,if_pos (by omega)]
  simp only[Bool.and_eq_true,decide_eq_true_eq,beq_iff_eq,runB_iff]
  constructor
  ·rintro⟨⟨a,a'⟩,b,c,d,e,f⟩;exact⟨b,c,d,e,f,.inr ⟨by omega,a,a'⟩⟩
  ·intro h;exact⟨⟨by have:=h.stat;omega,by have:=h.stat;omega⟩,h.waived,h.left,h.pau,h.got,h.bear⟩
theorem RunF.runs {k:K} {x:Cl} {m:Mk} (h:RunF k x m):runsM m=true:=runsM_iff.2 (by have:=h.stat;omega)
theorem endF {k:K} {i:Nat} {m:Mk} {s:Int} (hg:0≤m.got∧m.got≤9) (hb:-1≤m.bearer∧m.bearer<k.parties) (hs:s=3∨s=4∨s=5):markB k i (endM m s)=true:=by
 unfold markB
 rw[if_neg (by simp[endM];omega),if_neg (by simp[endM];omega),if_neg (by simp[endM];omega),if_pos (by simpa[endM] using hs)]
 unfold endB
 simp only[Bool.and_eq_true,decide_eq_true_eq]
 exact⟨⟨⟨⟨⟨rfl,hg.1⟩,hg.2⟩,hb.1⟩,hb.2⟩,rfl⟩
section
variable {k:K} (hk:KFacts k) {i:Nat} (hi:i<k.clauses.length) {m:Mk} (h:RunF k (clAt k i) m)
include hk hi h
theorem run_bd:(0≤m.got∧m.got≤9)∧(-1≤m.bearer∧m.bearer<k.parties)∧((clAt k i).kind=1→m.got+1≤9):=by
 have hp:=hk.parties
 have hg:=h.got
 have hb:=h.bear
 have hx:=kindW (hk.clB hi).2.2.1
 rcases hx with hx|⟨_,_,hx|hx|hx⟩<;>omega
omit hk hi in
theorem pause_keep {a:Int} (ha:a≠-1):RunF k (clAt k i) (pauseM k a i m):=by
 unfold pauseM
 split
 ·exact⟨h.waived,h.left,fun _=>by omega,h.got,h.bear,h.stat⟩
 ·split
  ·exact⟨h.waived,h.left,(fun h=>nomatch h),h.got,h.bear,h.stat⟩
  ·exact h
omit hk hi in
theorem bear_keep {x:Act} (hx:0≤x.to∧x.to<k.parties):RunF k (clAt k i) (bearM k x i m):=by
 unfold bearM
 split
 ·rename_i h1
  exact⟨h.waived,h.left,h.pau,h.got,.inr ⟨h1.1,hx⟩,h.stat⟩
 ·exact h
theorem eff_keep {a by_:Int}:markB k i (effM k a by_ i m)=true:=by
 obtain⟨b1,b2,b3⟩:=run_bd hk hi h
 unfold effM
 split
 ·unfold doM
  split
  ·rename_i h1
   have b3:=b3 h1
   unfold performM
   split
   ·rename_i h2
    exact endF (m:=moreM m) ⟨by show 0≤m.got+1;omega,by show m.got+1≤9;omega⟩ b2 (.inl rfl)
   ·rename_i h2
    have hx:=kindW (hk.clB hi).2.2.1
    have hg:=h.got
    have hn:RunF k (clAt k i) (moreM m):=⟨h.waived,h.left,h.pau,.inr ⟨h1,by show 0≤m.got+1;omega,by show m.got+1<_;omega⟩,h.bear,h.stat⟩
    exact(markB_run hn.runs).2 hn
  ·split
   ·unfold violM
    split
    ·exact(markB_run h.runs).2 h
    ·exact endF b1 b2 (.inr (.inl rfl))
   ·exact endF b1 b2 (.inl rfl)
 ·exact(markB_run h.runs).2 h
theorem tick_keep {free:Bool}:markB k i (tickM k free i m)=true:=by
 obtain⟨b1,b2,b3⟩:=run_bd hk hi h
 unfold tickM
 split
 ·exact(markB_run h.runs).2 h
 ·rename_i h0
  split
  ·unfold dayM
   split
   ·rename_i h1
    unfold expM
    split
    ·rename_i h2
     have hn:RunF k (clAt k i) ⟨2,(clAt k i).grace,(lessM m).got,(lessM m).bearer,(lessM m).paused⟩:=⟨h.waived,by show 1≤(clAt k i).grace;omega,h.pau,h.got,h.bear,.inr ⟨rfl,h1,Int.le_refl _⟩⟩
     exact(markB_run hn.runs).2 hn
    ·exact endF (m:=lessM m) b1 b2 (.inr (.inl rfl))
   ·split
    ·exact endF (m:=lessM m) b1 b2 (.inl rfl)
    ·exact endF (m:=lessM m) b1 b2 (.inr (.inr rfl))
  ·rename_i h1
   have hl:=h.left
   have hn:RunF k (clAt k i) (lessM m):=⟨h.waived,by show 1≤m.left-1;omega,h.pau,h.got,h.bear,by
    have hs:=h.stat
    show m.status=1∧m.left-1≤_∨m.status=2∧_∧m.left-1≤_
    omega⟩
   exact(markB_run hn.runs).2 hn
end
structure POk (k:K) (w:Wk):Prop where
 day:0≤w.day∧w.day≤k.days
 hold:∀i,i<k.holders.length→0≤w.hold i∧w.hold i<k.parties
 used:∀i,i<k.acts.length→w.used i=true→(acAt k i).kind≠1
 mark:∀i,i<k.clauses.length→markB k i (w.mark i)=true
theorem WOk.pre {k:K} {w:Wk} (h:WOk k w):POk k w:=⟨h.day,h.hold,h.used,h.mark⟩
theorem POk.map {k:K} {w:Wk} (h:POk k w) {f:Nat→Mk→Mk} (hf:∀i,i<k.clauses.length→RunF k (clAt k i) (w.mark i)→markB k i (f i (w.mark i))=true):POk k (mapRun f w k.clauses.length):=by
 refine⟨h.day,h.hold,h.used,fun i hi=>?_⟩
 rw[mapRun_mk hi]
 split
 ·rename_i hr
  exact hf i hi ((markB_run hr).1 (h.mark i hi))
 ·exact h.mark i hi
theorem startW_keep {k:K} (hk:KFacts k) {w:Wk} (h:POk k w):WOk k (startW k w):=by
 obtain⟨h1,h2⟩:=startW_spec k w
 refine⟨by rw[h1.day];exact h.day,by rw[h1.hold];exact h.hold,by rw[h1.used];exact h.used,fun i hi=>?_,h2⟩
 rcases h1.mark i with e|⟨_,e2,e3,e4,_⟩
 ·rw[e];exact h.mark i hi
 ·rw[e4]
  have hb:=hk.clB hi
  have hx:=kindW hb.2.2.1
  have hn:RunF k (clAt k i) (liveM k w.hold i):=by
   refine⟨e3,hb.2.1.1,(fun h=>nomatch h),.inl rfl,?_,.inl ⟨rfl,Int.le_refl _⟩⟩
   rcases hx with hx|⟨hx,_⟩
   ·exact .inl ⟨hx.1,by simp[liveM,hx.1]⟩
   ·by_cases h4:(clAt k i).kind=4
    ·exact .inl ⟨h4,by simp[liveM,h4]⟩
    ·refine .inr ⟨h4,?_⟩
     have:=h.hold (clAt k i).role.toNat (by omega)
     simpa[liveM,h4] using this
  exact(markB_run hn.runs).2 hn
theorem tickW_keep {k:K} (hk:KFacts k) {w:Wk} (h:WOk k w) (hd:w.day<k.days):WOk k (tickW k w):=by
 refine startW_keep hk ?_
 have:=h.pre.map (f:=tickM k (offD k w.day)) fun i hi hr=>tick_keep hk hi hr
 exact⟨by have:=h.day;show 0≤w.day+1∧w.day+1≤k.days;omega,this.hold,this.used,this.mark⟩
theorem preA_keep {k:K} (hk:KFacts k) {w:Wk} (h:WOk k w) (a:Nat):POk k (preA k w a):=by
 have h1:=h.pre.map (f:=pauseM k a) fun i hi hr=>by
  have:=pause_keep hr (a:=a) (by omega)
  exact(markB_run this.runs).2 this
 exact h1.map fun i hi hr=>eff_keep hk hi hr
theorem actW_keep {k:K} (hk:KFacts k) {w:Wk} (h:WOk k w) {a:Nat} (ha:a<k.acts.length):WOk k (actW' k w a):=by
 unfold actW'
 split
 ·exact h
 ·refine startW_keep hk ?_
  have h1:=preA_keep hk h a
  have hx:=(actF (hk.act a ha)).2
  unfold preG
  split
  ·rename_i h2
   have hx:(acAt k a).kind=2∨(acAt k a).kind=3:=by omega
   have hx2:(0≤(acAt k a).give∧(acAt k a).give<k.holders.length)∧0≤(acAt k a).to∧(acAt k a).to<k.parties:=by omega
   have h3:POk k (shiftW k (preA k w a) a):=by
    refine⟨h1.day,fun i hi=>?_,fun i hi hu=>?_,h1.mark⟩
    ·show 0≤(if i=(acAt k a).give.toNat then(acAt k a).to else(preA k w a).hold i)∧(if i=(acAt k a).give.toNat then(acAt k a).to else(preA k w a).hold i)<k.parties
     split
     ·exact hx2.2
     ·exact h1.hold i hi
    ·by_cases hia:i=a
     ·subst hia;exact h2
     ·refine h1.used i hi ?_
      have:(if i=a then true else(preA k w a).used i)=true:=hu
      rwa[if_neg hia] at this
   unfold giveW
   split
   ·exact h3
   ·exact h3.map fun i hi hr=>by
     have:=bear_keep hr (x:=acAt k a) hx2.2
     exact(markB_run this.runs).2 this
  ·exact h1
theorem stepW_keep {k:K} (hk:KFacts k) {w:Wk} (h:WOk k w) {s:Int} (hs:-1≤s∧s<k.acts.length) (hd:w.day<k.days):WOk k (stepW k w s):=by
 unfold stepW
 split
 ·exact tickW_keep hk h hd
 ·exact actW_keep hk h (by omega)
def initM (x:Cl):Mk:=⟨if x.waived then 5 else 0,0,0,-1,false⟩
def initW (k:K):Wk:=⟨0,fun i=>k.holders.getD i default,fun _=>false,fun i=>initM (clAt k i)⟩
theorem initW_keep {k:K} (hk:KFacts k) (hh:∀i,i<k.holders.length→0≤k.holders.getD i default∧k.holders.getD i default<k.parties):WOk k (startW k (initW k)):=by
 refine startW_keep hk ⟨⟨Int.le_refl _,by have:=hk.days;show(0:Int)≤_;omega⟩,hh,(fun i hi hu=>nomatch hu),fun i hi=>?_⟩
 show markB k i (initM (clAt k i))=true
 have hp:=hk.parties
 unfold markB initM
 cases hw:(clAt k i).waived
 ·simp[idleB]
 ·simp[endB];omega
end
section
open Go.Eng
end
section
open Go.Eng
structure St where
 day:Int
 holders:List Int
 used:List Bool
 marks:List Mk
def mkC (m:Mk):List AV:=[.c (.int .i64 m.status),.c (.int .i64 m.left),.c (.int .i64 m.got),.c (.int .i64 m.bearer),.c (.bool m.paused)]
def stC (s:St):List AV:=[.c (.int .i64 s.day),intsV s.holders,boolsV s.used,rowL mkC 5 s.marks]
def stV (s:St):AV:=.agg (stC s)
def St.wk (s:St):Wk:=⟨s.day,fun i=>s.holders.getD i default,fun i=>s.used.getD i default,fun i=>s.marks.getD i default⟩
def mkW (m:Mk):Prop:=inK .i64 m.status∧inK .i64 m.left∧inK .i64 m.got∧inK .i64 m.bearer
theorem running_ok (m:Mk):Does Tryz.prog 109 [.agg (mkC m)] (.c (.bool (runsM m))):=by
 refine Does.mk (fun _=>false) TT_ok Tryz.func109 rfl (by kernel_rfl) Tryz.ntmps109 rfl rfl fun E hT hE hN hR=>?_
 have hm:=mixO hE
 refine XK.w ?_
 refine XK.q ?_
 rfl
theorem validRun_ok (k:K) (x:Cl) (m:Mk):Does Tryz.prog 104 [kV k,.agg (clC x),.agg (mkC m)] (.c (.bool (runB k x m))):=by
 refine Does.mk (fun _=>false) TT_ok Tryz.func104 rfl (by kernel_rfl) Tryz.ntmps104 rfl rfl fun E hT hE hN hR=>?_
 have hm:=mixO hE
 refine XK.c ?_ ?_<;>intro h1
 ·refine XK.w ?_
  refine XK.q ?_
  rw[runB,if_pos h1]
 ·have h1:¬(x.waived||decide (m.left<1)||(m.paused&&x.pause==-1))=true:=by simpa using h1
  refine XK.c ?_ ?_<;>intro h2
  ·refine XK.w ?_
   refine XK.q ?_
   rw[runB,if_neg h1,if_pos (by simpa[Bool.or_assoc] using h2)]
  ·have h2:¬(m.got !=0&&(x.kind !=1||decide (m.got<0)||decide (x.need≤m.got)))=true:=by simpa[Bool.or_assoc] using h2
   refine XK.c ?_ ?_<;>intro h3<;>try simp at h3
   ·refine XK.w ?_
    refine XK.q ?_
    rw[runB,if_neg h1,if_neg h2,if_pos h3]
   ·refine XK.w ?_
    refine XK.q ?_
    rw[runB,if_neg h1,if_neg h2,if_neg h3]
theorem validMark_ok (k:K) (i:Nat) (hi:i<k.clauses.length) (m:Mk):Does Tryz.prog 56 [kV k,.c (.int .i64 i),.agg (mkC m)] (.c (.bool (markB k i m))):=by
 refine Does.mk (fun _=>false) TT_ok Tryz.func56 rfl (by kernel_rfl) Tryz.ntmps56 rfl rfl fun E hT hE hN hR=>?_
 have hm:=mixO hE
 have fc:k.clauses.getD (i:Int).toNat default=clAt k i:=rfl
 have hv:=validRun_ok k (clAt k i) m
 refine XK.w ?_
 rw[fc]
 unfold markB
 generalize clAt k i=x at*
 refine XK.c ?_ ?_<;>intro h0<;>try simp at h0
 ·refine XK.w ?_
  refine XK.q ?_
  rw[if_pos h0]
  unfold idleB
  cases x.waived<;>cases hp:m.paused<;>simp[hp,Bool.and_assoc]
 ·rw[if_neg h0]
  refine XK.c ?_ ?_<;>intro h1<;>try simp at h1
  ·rw[if_pos h1]
   refine XK.r ?_
   refine XL.callGA hE rfl rfl rfl rfl rfl rfl rfl rfl (hv) rfl ?_
   refine XL.e ?_
   refine XK.q ?_
   rfl
  ·rw[if_neg h1]
   refine XK.c ?_ ?_<;>intro h2<;>try simp at h2
   ·rw[if_pos h2]
    refine XK.r ?_
    refine XL.callGA hE rfl rfl rfl rfl rfl rfl rfl rfl (hv) rfl ?_
    refine XL.e ?_
    refine XK.q ?_
    rfl
   ·rw[if_neg h2]
    refine XK.c ?_ ?_<;>intro h3<;>try simp at h3
    ·rw[if_pos (.inl h3)]
     refine XK.c ?_ ?_<;>intro h6<;>try simp at h6
     ·refine XK.w ?_
      refine XK.q ?_
      rfl
     ·exact absurd h3 h6
    ·refine XK.c ?_ ?_<;>intro h4<;>try simp at h4
     ·rw[if_pos (.inr (.inl h4))]
      refine XK.c ?_ ?_<;>intro h6<;>try simp at h6
      ·refine XK.w ?_
       refine XK.q ?_
       rfl
      ·exact absurd h4 h6
     ·refine XK.c ?_ ?_<;>intro h5<;>try simp at h5
      ·rw[if_pos (.inr (.inr h5))]
       refine XK.w ?_
       refine XK.q ?_
       rfl
      ·rw[if_neg (by omega)]
       refine XK.w ?_
       refine XK.q ?_
       rfl
def wHold (k:K) (w:Wk):Ob:=.vec 3 1 0 k.holders.length (fun i=>[.c (.int .i64 (w.hold i))])
def wUsed (k:K) (w:Wk):Ob:=.vec 4 1 0 k.acts.length (fun i=>[.c (.bool (w.used i))])
def wMark (k:K) (w:Wk):Ob:=.vec 56 5 0 k.clauses.length (fun i=>mkC (w.mark i))
def wRows (k:K) (w:Wk):List Ob:=[wHold k w,wUsed k w,wMark k w]
def wRowsN (k:K) (w:Wk):List (Nat×Ob):=[(0,wHold k w),(1,wUsed k w),(2,wMark k w)]
theorem sready_ok (k:K) (hk:KFacts k) (s:St) (hs:s.marks.length=k.clauses.length) (i:Nat) (hi:i<k.clauses.length):Does Tryz.prog 47 [kV k,stV s,.c (.int .i64 i)] (.c (.bool (rdyB k s.wk.mark i))):=by
 refine Does.mk (fun _=>false) TT_ok Tryz.func47 rfl (by kernel_rfl) Tryz.ntmps47 rfl rfl fun E hT hE hN hR=>?_
 have hm:=mixO hE
 have hx:=hk.clW' hi
 have fc:k.clauses.getD (i:Int).toNat default=clAt k i:=rfl
 have fm:s.marks.getD (i:Int).toNat default=s.wk.mark i:=rfl
 have hc:=fun j (hj:j<(clAt k i).start.length)=>hk.cond hi (s:=(clAt k i).start.getD j default) (by simp only[List.getD_eq_getElem?_getD,List.getElem?_eq_getElem hj,Option.getD_some];exact List.getElem_mem hj)
 unfold rdyB
 refine XK.w ?_
 try rw[fc,fm]
 refine XK.c ?_ ?_<;>intro h0
 ·rw[if_pos h0]
  refine XK.w ?_
  refine XK.q ?_
  rfl
 ·have h0:¬((s.wk.mark i).status !=0||(clAt k i).waived)=true:=by rw[h0];simp
  rw[if_neg h0]
  refine XK.w ?_
  rw[fc]
  refine XK.fact (Sat.rs_len (j:=31) rfl) fun hlen=>?_
  have hm':(clAt k i).start.length≤9223372036854775807:=hlen.1
  refine XK.loop (ι:=Nat) (fun j=>ST.of [(3,.ptr 3 0),(4,.ptr 4 0),(31,cndsV (clAt k i).start),(32,.c (.int .i64 (clAt k i).start.length)),(33,.c (.int .i64 j))] ([(3,.cells 27 (kC k)),(4,.cells 44 (stC s))]) 1000 65 (fun _=>false))
   (fun j=>j≤(clAt k i).start.length∧∀q,q<j→condHB s.wk.mark ((clAt k i).start.getD q default)=true) (fun j=>(clAt k i).start.length -j) 0 ⟨Nat.zero_le _,fun j hj=>absurd hj (Nat.not_lt_zero _)⟩
   (Weak.of hN rfl rfl rfl frI frI) fun j hj=>?_
  obtain⟨hj1,hj2⟩:=hj
  refine XK.c ?_ ?_<;>intro hlt<;>try simp at hlt
  ·have hcj:=hc j hlt
   have fin:∀b:Bool,b=condHB s.wk.mark ((clAt k i).start.getD j default)→((b=false→(clAt k i).start.all (condHB s.wk.mark)=false)∧(b=true→∀q,q<j+1→condHB s.wk.mark ((clAt k i).start.getD q default)=true)):=by
    intro b hb
    refine⟨fun h=>all_not hlt (by rw[←hb,h]),fun h q hq=>?_⟩
    by_cases hqj:q=j
    ·subst hqj;rw[←hb,h]
    ·exact hj2 q (by omega)
   have fix:((clAt k i).start.getD (j:Int).toNat default)=(clAt k i).start.getD j default:=rfl
   generalize hsc:(clAt k i).start.getD j default=c at hcj fin fix
   have fx:s.marks.getD c.clause.toNat default=s.wk.mark c.clause.toNat:=rfl
   refine XK.w ?_
   rw[fix]
   try rw[fx]
   refine XK.c ?_ ?_<;>intro h1<;>try simp at h1
   ·refine XK.c ?_ ?_<;>intro h5<;>try simp at h5
    ·refine XK.w ?_
     refine XK.q ?_
     rw[(fin false (by simp[condHB,h1,h5])).1 rfl];try rfl
    ·refine XK.w ?_
     refine XK.inv ⟨j+1,⟨hlt,(fin true (by simp[condHB,h1,h5])).2 rfl⟩,(Weak.of hN rfl rfl rfl frI frI),by omega⟩
   ·skip
    refine XK.c ?_ ?_<;>intro h2<;>try simp at h2
    ·refine XK.c ?_ ?_<;>intro h5<;>try simp at h5
     ·refine XK.w ?_
      refine XK.q ?_
      rw[(fin false (by simp[condHB,h1,h2,h5])).1 rfl];try rfl
     ·refine XK.w ?_
      refine XK.inv ⟨j+1,⟨hlt,(fin true (by simp[condHB,h1,h2,h5])).2 rfl⟩,(Weak.of hN rfl rfl rfl frI frI),by omega⟩
    ·skip
     refine XK.c ?_ ?_<;>intro h3<;>try simp at h3
     ·refine XK.c ?_ ?_<;>intro h5<;>try simp at h5
      ·refine XK.w ?_
       refine XK.q ?_
       rw[(fin false (by simp[condHB,h1,h2,h3,h5])).1 rfl];try rfl
      ·refine XK.w ?_
       refine XK.inv ⟨j+1,⟨hlt,(fin true (by simp[condHB,h1,h2,h3,h5])).2 rfl⟩,(Weak.of hN rfl rfl rfl frI frI),by omega⟩
     ·skip
      refine XK.c ?_ ?_<;>intro h4<;>try simp at h4
      ·refine XK.c ?_ ?_<;>intro h5<;>try simp at h5
       ·refine XK.w ?_
        refine XK.q ?_
        rw[(fin false (by simp[condHB,h1,h2,h3,h4,h5])).1 rfl];try rfl
       ·refine XK.w ?_
        refine XK.inv ⟨j+1,⟨hlt,(fin true (by simp[condHB,h1,h2,h3,h4,h5])).2 rfl⟩,(Weak.of hN rfl rfl rfl frI frI),by omega⟩
      ·omega
  ·refine XK.w ?_
   refine XK.q ?_
   have:(clAt k i).start.all (condHB s.wk.mark)=true:=all_at.2 fun q hq=>hj2 q (by omega)
   rw[this];try rfl
theorem readyM_ok (k:K) (hk:KFacts k) (w:Wk) (i:Nat) (hi:i<k.clauses.length):DoesM Tryz.prog 47 [kV k,.agg [.c (.int .i64 w.day),.vec 0 0,.vec 1 0,.vec 2 0],.c (.int .i64 i)] (wRows k w) (.c (.bool (rdyB k w.mark i))) (wRows k w):=by
 refine DoesM.mk (fun _=>false) 100 TT_ok Tryz.func47 rfl (by kernel_rfl) Tryz.ntmps47 rfl rfl rfl fun E hT hE hN hR=>?_
 have hm:=mixO hE
 have hx:=hk.clW' hi
 have fc:k.clauses.getD (i:Int).toNat default=clAt k i:=rfl
 have hc:=fun j (hj:j<(clAt k i).start.length)=>hk.cond hi (s:=(clAt k i).start.getD j default) (by simp only[List.getD_eq_getElem?_getD,List.getElem?_eq_getElem hj,Option.getD_some];exact List.getElem_mem hj)
 unfold rdyB
 refine XK.w ?_
 try rw[fc]
 refine XK.c ?_ ?_<;>intro h0
 ·have h0:((w.mark i).status !=0||(clAt k i).waived)=true:=h0
  rw[if_pos h0]
  refine XK.w ?_
  refine XK.t [0,1,2] ?_ ?_
  ·exact frI
  ·rfl
 ·have h0:((w.mark i).status !=0||(clAt k i).waived)=false:=h0
  have h0:¬((w.mark i).status !=0||(clAt k i).waived)=true:=by rw[h0];simp
  rw[if_neg h0]
  refine XK.w ?_
  rw[fc]
  refine XK.fact (Sat.rs_len (j:=31) rfl) fun hlen=>?_
  have hm':(clAt k i).start.length≤9223372036854775807:=hlen.1
  refine XK.loop (ι:=Nat) (fun j=>ST.of [(3,.ptr 103 0),(4,.ptr 104 0),(31,cndsV (clAt k i).start),(32,.c (.int .i64 (clAt k i).start.length)),(33,.c (.int .i64 j))] ((103,.cells 27 (kC k))::(104,.cells 44 [.c (.int .i64 w.day),.vec 0 0,.vec 1 0,.vec 2 0])::wRowsN k w) 1000 65 (fun _=>false))
   (fun j=>j≤(clAt k i).start.length∧∀q,q<j→condHB w.mark ((clAt k i).start.getD q default)=true) (fun j=>(clAt k i).start.length -j) 0 ⟨Nat.zero_le _,fun j hj=>absurd hj (Nat.not_lt_zero _)⟩
   (Weak.of hN rfl rfl rfl frI frI) fun j hj=>?_
  obtain⟨hj1,hj2⟩:=hj
  refine XK.c ?_ ?_<;>intro hlt<;>try simp at hlt
  ·have hcj:=hc j hlt
   have fin:∀b:Bool,b=condHB w.mark ((clAt k i).start.getD j default)→((b=false→(clAt k i).start.all (condHB w.mark)=false)∧(b=true→∀q,q<j+1→condHB w.mark ((clAt k i).start.getD q default)=true)):=by
    intro b hb
    refine⟨fun h=>all_not hlt (by rw[←hb,h]),fun h q hq=>?_⟩
    by_cases hqj:q=j
    ·subst hqj;rw[←hb,h]
    ·exact hj2 q (by omega)
   have fix:((clAt k i).start.getD (j:Int).toNat default)=(clAt k i).start.getD j default:=rfl
   generalize hsc:(clAt k i).start.getD j default=c at hcj fin fix
   refine XK.w ?_
   rw[fix]
   refine XK.c ?_ ?_<;>intro h1<;>try simp at h1
   ·refine XK.c ?_ ?_<;>intro h5<;>try simp at h5
    ·refine XK.w ?_
     refine XK.t [0,1,2] ?_ ?_
     ·exact frI
     ·rw[(fin false (by simp[condHB,h1,h5])).1 rfl];try rfl
    ·refine XK.w ?_
     refine XK.inv ⟨j+1,⟨hlt,(fin true (by simp[condHB,h1,h5])).2 rfl⟩,(Weak.of hN rfl rfl rfl frI frI),by omega⟩
   ·skip
    refine XK.c ?_ ?_<;>intro h2<;>try simp at h2
    ·refine XK.c ?_ ?_<;>intro h5<;>try simp at h5
     ·refine XK.w ?_
      refine XK.t [0,1,2] ?_ ?_
      ·exact frI
      ·rw[(fin false (by simp[condHB,h1,h2,h5])).1 rfl];try rfl
     ·refine XK.w ?_
      refine XK.inv ⟨j+1,⟨hlt,(fin true (by simp[condHB,h1,h2,h5])).2 rfl⟩,(Weak.of hN rfl rfl rfl frI frI),by omega⟩
    ·skip
     refine XK.c ?_ ?_<;>intro h3<;>try simp at h3
     ·refine XK.c ?_ ?_<;>intro h5<;>try simp at h5
      ·refine XK.w ?_
       refine XK.t [0,1,2] ?_ ?_
       ·exact frI
       ·rw[(fin false (by simp[condHB,h1,h2,h3,h5])).1 rfl];try rfl
      ·refine XK.w ?_
       refine XK.inv ⟨j+1,⟨hlt,(fin true (by simp[condHB,h1,h2,h3,h5])).2 rfl⟩,(Weak.of hN rfl rfl rfl frI frI),by omega⟩
     ·skip
      refine XK.c ?_ ?_<;>intro h4<;>try simp at h4
      ·refine XK.c ?_ ?_<;>intro h5<;>try simp at h5
       ·refine XK.w ?_
        refine XK.t [0,1,2] ?_ ?_
        ·exact frI
        ·rw[(fin false (by simp[condHB,h1,h2,h3,h4,h5])).1 rfl];try rfl
       ·refine XK.w ?_
        refine XK.inv ⟨j+1,⟨hlt,(fin true (by simp[condHB,h1,h2,h3,h4,h5])).2 rfl⟩,(Weak.of hN rfl rfl rfl frI frI),by omega⟩
      ·omega
  ·refine XK.w ?_
   refine XK.t [0,1,2] ?_ ?_
   ·exact frI
   ·have:(clAt k i).start.all (condHB w.mark)=true:=all_at.2 fun q hq=>hj2 q (by omega)
    rw[this];try rfl
theorem sdoer_ok (k:K) (hk:KFacts k) (s:St) (hs:s.holders.length=k.holders.length) (a:Nat) (ha:a<k.acts.length):Does Tryz.prog 64 [kV k,stV s,.c (.int .i64 a)] (.c (.int .i64 (doerW k s.wk.hold a))):=by
 refine Does.mk (fun _=>false) TT_ok Tryz.func64 rfl (by kernel_rfl) Tryz.ntmps64 rfl rfl fun E hT hE hN hR=>?_
 have hm:=mixO hE
 have fc:k.acts.getD (a:Int).toNat default=acAt k a:=rfl
 have hr:=(actF (hk.act a ha)).1
 refine XK.w ?_
 rw[fc]
 generalize hx:acAt k a=x at*
 refine XK.c ?_ ?_<;>intro h0<;>try simp at h0
 ·refine XK.w ?_
  refine XK.q ?_
  rw[doerW,hx,if_pos h0]
 ·refine XK.w ?_
  rw[fc]
  refine XK.q ?_
  rw[doerW,hx,if_neg h0]
  rfl
end
section
open Go.Eng
theorem rall {p:Nat→Bool} {n:Nat}:(List.range n).all p=true↔∀i,i<n→p i=true:=by simp[List.all_eq_true]
theorem rall_not {p:Nat→Bool} {n i:Nat} (hi:i<n) (h:p i=false):(List.range n).all p=false:=by
 rw[←Bool.not_eq_true,rall]
 intro h2
 rw[h2 i hi] at h
 cases h
noncomputable def validS (k:K) (s:St):Bool:=
 if(kValid k).1≠0 then false
 else if(decide (s.day<0)||decide (k.days<s.day)||(s.holders.length:Int)!=k.holders.length||(s.used.length:Int)!=k.acts.length||(s.marks.length:Int)!=k.clauses.length)=true then false
 else if s.holders.all (fun h=>!(decide (h<0)||decide (k.parties≤h)))=false then false
 else if(List.range s.used.length).all (fun a=>!(s.used.getD a default&&(acAt k a).kind==1))=false then false
 else(List.range s.marks.length).all (fun i=>markB k i (s.marks.getD i default)&&!rdyB k s.wk.mark i)
theorem validS_ok (k:K) (hk:kW k) (s:St):Does Tryz.prog 34 [kV k,stV s] (.c (.bool (validS k s))):=by
 refine Does.mk (fun _=>false) TT_ok Tryz.func34 rfl (by kernel_rfl) Tryz.ntmps34 rfl rfl fun E hT hE hN hR=>?_
 have hm:=mixO hE
 refine XK.r ?_
 refine XL.callLA hE rfl rfl rfl rfl trivial rfl (kValid_ok k hk) rfl ?_
 refine XL.e ?_
 unfold validS
 refine XK.c ?_ ?_<;>intro h1<;>try simp at h1
 ·rw[if_pos h1]
  refine XK.w ?_
  refine XK.q ?_
  rfl
 ·rw[if_neg (by simpa using h1)]
  have hF:=(show kOk k from⟨hk,by simpa using h1⟩).facts
  refine XK.c ?_ ?_<;>intro h2
  ·rw[if_pos h2]
   refine XK.w ?_
   refine XK.q ?_
   rfl
  ·rw[if_neg (by rw[h2];simp)]
   simp only[Bool.or_eq_false_iff,decide_eq_false_iff_not,bne_eq_false_iff_eq] at h2
   obtain⟨⟨⟨⟨d1,d2⟩,e1⟩,e2⟩,e3⟩:=h2
   have e1:s.holders.length=k.holders.length:=by omega
   have e2:s.used.length=k.acts.length:=by omega
   have e3:s.marks.length=k.clauses.length:=by omega
   have b1:=hF.nh
   have b2:=hF.na
   have b3:=hF.nc
   refine XK.w ?_
   refine XK.loop (ι:=Nat) (fun i=>ST.of [(2,.ptr 2 0),(3,.ptr 3 0),(57,intsV s.holders),(58,.c (.int .i64 s.holders.length)),(59,.c (.int .i64 i))] [(2,.cells 27 (kC k)),(3,.cells 44 (stC s))] 1000 113 (fun _=>false))
    (fun i=>i≤s.holders.length∧∀q,q<i→(fun h:Int=>!(decide (h<0)||decide (k.parties≤h))) (s.holders.getD q default)=true) (fun i=>s.holders.length-i) 0 ⟨Nat.zero_le _,fun q hq=>absurd hq (Nat.not_lt_zero _)⟩
    (Weak.of hN rfl rfl rfl frI frI) fun i hi=>?_
   obtain⟨hi1,hi2⟩:=hi
   refine XK.c ?_ ?_<;>intro hlt<;>try simp at hlt
   ·have fh:s.holders.getD (i:Int).toNat default=s.holders.getD i default:=rfl
    refine XK.w ?_
    try rw[fh]
    refine XK.c ?_ ?_<;>intro hb
    ·rw[if_pos (all_not (p:=fun h:Int=>!(decide (h<0)||decide (k.parties≤h))) hlt (by
      show(!(decide (s.holders.getD i default<0)||decide (k.parties≤s.holders.getD i default)))=false
      rw[show(decide (s.holders.getD i default<0)||decide (k.parties≤s.holders.getD i default))=true from hb];rfl))]
     refine XK.w ?_
     refine XK.q ?_
     rfl
    ·refine XK.w ?_
     refine XK.inv ⟨i+1,⟨hlt,fun q hq=>?_⟩,(Weak.of hN rfl rfl rfl frI frI),by omega⟩
     by_cases hqi:q=i
     ·subst hqi
      show(!(decide (s.holders.getD q default<0)||decide (k.parties≤s.holders.getD q default)))=true
      rw[show(decide (s.holders.getD q default<0)||decide (k.parties≤s.holders.getD q default))=false from hb];rfl
     ·exact hi2 q (by omega)
   ·have hall:s.holders.all (fun h=>!(decide (h<0)||decide (k.parties≤h)))=true:=all_at.2 fun q hq=>hi2 q (by omega)
    rw[if_neg (by rw[hall];simp)]
    clear hi2 hall
    refine XK.w ?_
    refine XK.loop (ι:=Nat) (fun i=>ST.of [(2,.ptr 2 0),(3,.ptr 3 0),(73,boolsV s.used),(74,.c (.int .i64 s.used.length)),(75,.c (.int .i64 i))] [(2,.cells 27 (kC k)),(3,.cells 44 (stC s))] 2000 113 (fun _=>false))
     (fun i=>i≤s.used.length∧∀q,q<i→(!(s.used.getD q default&&(acAt k q).kind==1))=true) (fun i=>s.used.length-i) 0 ⟨Nat.zero_le _,fun q hq=>absurd hq (Nat.not_lt_zero _)⟩
     (Weak.of hN rfl rfl rfl frI frI) fun j hj=>?_
    obtain⟨hj1,hj2⟩:=hj
    refine XK.c ?_ ?_<;>intro hlt2<;>try simp at hlt2
    ·have fh:s.used.getD (j:Int).toNat default=s.used.getD j default:=rfl
     have fc:k.acts.getD (j:Int).toNat default=acAt k j:=rfl
     refine XK.w ?_
     try rw[fh,fc]
     refine XK.c ?_ ?_<;>intro hb
     ·rw[if_pos (rall_not hlt2 (by rw[show(s.used.getD j default&&(acAt k j).kind==1)=true from hb];rfl))]
      refine XK.w ?_
      refine XK.q ?_
      rfl
     ·refine XK.w ?_
      refine XK.inv ⟨j+1,⟨hlt2,fun q hq=>?_⟩,(Weak.of hN rfl rfl rfl frI frI),by omega⟩
      by_cases hqi:q=j
      ·subst hqi
       rw[show(s.used.getD q default&&(acAt k q).kind==1)=false from hb];rfl
      ·exact hj2 q (by omega)
    ·have hall:(List.range s.used.length).all (fun a=>!(s.used.getD a default&&(acAt k a).kind==1))=true:=rall.2 fun q hq=>hj2 q (by omega)
     rw[if_neg (by rw[hall];simp)]
     clear hj2 hall
     refine XK.w ?_
     refine XK.loop (ι:=Nat) (fun i=>ST.of [(2,.ptr 2 0),(3,.ptr 3 0),(92,rowL mkC 5 s.marks),(93,.c (.int .i64 s.marks.length)),(94,.c (.int .i64 i))] [(2,.cells 27 (kC k)),(3,.cells 44 (stC s))] 3000 113 (fun _=>false))
      (fun i=>i≤s.marks.length∧∀q,q<i→(markB k q (s.marks.getD q default)&&!rdyB k s.wk.mark q)=true) (fun i=>s.marks.length-i) 0 ⟨Nat.zero_le _,fun q hq=>absurd hq (Nat.not_lt_zero _)⟩
      (Weak.of hN rfl rfl rfl frI frI) fun m hm0=>?_
     obtain⟨hm1,hm2⟩:=hm0
     refine XK.c ?_ ?_<;>intro hlt3<;>try simp at hlt3
     ·have hmc:m<k.clauses.length:=by omega
      have fh:s.marks.getD (m:Int).toNat default=s.marks.getD m default:=rfl
      have v1:=validMark_ok k m hmc (s.marks.getD m default)
      have v2:=sready_ok k hF s e3 m hmc
      refine XK.s ?_
      try rw[fh]
      refine XD.callLA hE rfl rfl rfl rfl trivial rfl (v1) rfl ?_
      refine XD.g ?_
      refine XD.callGA hE rfl rfl rfl rfl rfl rfl rfl rfl rfl (v2) rfl ?_
      refine XD.e ?_
      refine XK.c ?_ ?_<;>intro hb
      ·have hb:(!markB k m (s.marks.getD m default)||rdyB k s.wk.mark m)=true:=hb
       rw[rall_not hlt3 (by revert hb;cases markB k m (s.marks.getD m default)<;>cases rdyB k s.wk.mark m<;>simp)]
       refine XK.w ?_
       refine XK.q ?_
       rfl
      ·have hb:(!markB k m (s.marks.getD m default)||rdyB k s.wk.mark m)=false:=hb
       refine XK.w ?_
       refine XK.inv ⟨m+1,⟨hlt3,fun q hq=>?_⟩,(Weak.of hN rfl rfl rfl frI frI),by omega⟩
       by_cases hqi:q=m
       ·subst hqi
        revert hb;cases markB k q (s.marks.getD q default)<;>cases rdyB k s.wk.mark q<;>simp
       ·exact hm2 q (by omega)
     ·rw[show(List.range s.marks.length).all (fun i=>markB k i (s.marks.getD i default)&&!rdyB k s.wk.mark i)=true from rall.2 fun q hq=>hm2 q (by omega)]
      refine XK.w ?_
      refine XK.q ?_
      rfl
noncomputable def doerS (k:K) (s:St) (a:Int):Int:=if(!validS k s||decide (a<0)||decide ((k.acts.length:Int)≤a))=true then -2 else doerW k s.wk.hold a.toNat
theorem validS_len {k:K} {s:St} (h:validS k s=true):(kValid k).1=0∧s.holders.length=k.holders.length∧s.used.length=k.acts.length∧s.marks.length=k.clauses.length∧(0≤s.day∧s.day≤k.days)∧
  (∀i,i<s.holders.length→0≤s.holders.getD i default∧s.holders.getD i default<k.parties)∧(∀i,i<s.used.length→(!(s.used.getD i default&&(acAt k i).kind==1))=true)∧∀i,i<s.marks.length→(markB k i (s.marks.getD i default)&&!rdyB k s.wk.mark i)=true:=by
 unfold validS at h
 split at h
 ·cases h
 ·rename_i h1
  split at h
  ·cases h
  ·rename_i h2
   simp only[Bool.or_eq_true,decide_eq_true_eq,bne_iff_ne,ne_eq,not_or,Decidable.not_not] at h2
   split at h
   ·cases h
   ·rename_i h3
    split at h
    ·cases h
    ·rename_i h4
     have h4:=by simpa only[Bool.not_eq_false] using h4
     have h3:=all_at.1 (by simpa using h3:s.holders.all (fun h=>!(decide (h<0)||decide (k.parties≤h)))=true)
     refine⟨by simpa using h1,by omega,by omega,by omega,by omega,fun i hi=>?_,fun i hi=>rall.1 h4 i hi,fun i hi=>rall.1 h i hi⟩
     have:=h3 i hi
     simp only[Bool.not_eq_true',Bool.or_eq_false_iff,decide_eq_false_iff_not] at this
     omega
theorem doerS_ok (k:K) (hk:kW k) (s:St) (a:Int):Does Tryz.prog 99 [kV k,stV s,.c (.int .i64 a)] (.c (.int .i64 (doerS k s a))):=by
 refine Does.mk (fun _=>false) TT_ok Tryz.func99 rfl (by kernel_rfl) Tryz.ntmps99 rfl rfl fun E hT hE hN hR=>?_
 have hm:=mixO hE
 refine XK.r ?_
 refine XL.callLA hE rfl rfl rfl rfl trivial rfl (validS_ok k hk s) rfl ?_
 refine XL.e ?_
 unfold doerS
 refine XK.c ?_ ?_<;>intro h1
 ·rw[if_pos h1]
  refine XK.w ?_
  refine XK.q ?_
  rfl
 ·rw[if_neg (by rw[h1];simp)]
  simp only[Bool.or_eq_false_iff,Bool.not_eq_false',decide_eq_false_iff_not] at h1
  obtain⟨⟨h1,h2⟩,h3⟩:=h1
  have hl:=validS_len h1
  obtain⟨n,rfl⟩:∃n:Nat,a=(n:Int):=⟨a.toNat,by omega⟩
  refine XK.r ?_
  refine XL.callLA hE rfl rfl rfl rfl trivial rfl (sdoer_ok k (show kOk k from⟨hk,hl.1⟩).facts s hl.2.1 n (by omega)) rfl ?_
  refine XL.e ?_
  refine XK.q ?_
  rfl
noncomputable def breachS (k:K) (s:St) (p:Int):Bool:=if(decide (p<0)||decide (k.parties≤p)||!validS k s)=true then false
 else(List.range s.marks.length).any (fun i=>(clAt k i).final&&(s.marks.getD i default).status==4&&(s.marks.getD i default).bearer==p)
theorem breachS_ok (k:K) (hk:kW k) (s:St) (p:Int):Does Tryz.prog 23 [kV k,stV s,.c (.int .i64 p)] (.c (.bool (breachS k s p))):=by
 refine Does.mk (fun _=>false) TT_ok Tryz.func23 rfl (by kernel_rfl) Tryz.ntmps23 rfl rfl fun E hT hE hN hR=>?_
 have hm:=mixO hE
 refine XK.r ?_
 refine XL.callGA hE rfl rfl rfl rfl rfl rfl rfl rfl (validS_ok k hk s) rfl ?_
 refine XL.e ?_
 unfold breachS
 refine XK.c ?_ ?_<;>intro h1
 ·rw[if_pos h1]
  refine XK.w ?_
  refine XK.q ?_
  rfl
 ·rw[if_neg (by rw[h1];simp)]
  simp only[Bool.or_eq_false_iff,Bool.not_eq_false',decide_eq_false_iff_not] at h1
  obtain⟨⟨h2,h3⟩,h1⟩:=h1
  have hl:=validS_len h1
  have hF:=(show kOk k from⟨hk,hl.1⟩).facts
  have hlm:=hl.2.2.2.1
  have b3:=hF.nc
  refine XK.w ?_
  refine XK.loop (ι:=Nat) (fun i=>ST.of [(2,.c (.int .i64 p)),(3,.ptr 3 0),(24,rowL mkC 5 s.marks),(25,.c (.int .i64 s.marks.length)),(26,.c (.int .i64 i))] [(3,.cells 27 (kC k))] 1000 49 (fun _=>false))
   (fun i=>i≤s.marks.length∧∀q,q<i→((clAt k q).final&&(s.marks.getD q default).status==4&&(s.marks.getD q default).bearer==p)=false) (fun i=>s.marks.length-i) 0 ⟨Nat.zero_le _,fun q hq=>absurd hq (Nat.not_lt_zero _)⟩
   (Weak.of hN rfl rfl rfl frI frI) fun i hi=>?_
  obtain⟨hi1,hi2⟩:=hi
  refine XK.c ?_ ?_<;>intro hlt<;>try simp at hlt
  ·have hic:i<k.clauses.length:=by omega
   have f1:s.marks.getD (i:Int).toNat default=s.marks.getD i default:=rfl
   have fc:k.clauses.getD (i:Int).toNat default=clAt k i:=rfl
   refine XK.w ?_
   try rw[f1]
   try rw[fc]
   refine XK.c ?_ ?_<;>intro hb
   ·rw[show(List.range s.marks.length).any (fun i=>(clAt k i).final&&(s.marks.getD i default).status==4&&(s.marks.getD i default).bearer==p)=true from List.any_eq_true.2 ⟨i,by simpa using hlt,by simpa using hb⟩]
    refine XK.w ?_
    refine XK.q ?_
    rfl
   ·refine XK.w ?_
    refine XK.inv ⟨i+1,⟨hlt,fun q hq=>?_⟩,(Weak.of hN rfl rfl rfl frI frI),by omega⟩
    by_cases hqi:q=i
    ·subst hqi;exact hb
    ·exact hi2 q (by omega)
  ·rw[show(List.range s.marks.length).any (fun i=>(clAt k i).final&&(s.marks.getD i default).status==4&&(s.marks.getD i default).bearer==p)=false from by
    rw[List.any_eq_false]
    intro q hq
    rw[hi2 q (by simp at hq;omega)];simp]
   refine XK.w ?_
   refine XK.q ?_
   rfl
def eqIS (l r:List Int):Bool:=l.length==r.length&&(List.range l.length).all (fun i=>l.getD i default==r.getD i default)
theorem eqI_ok (l r:List Int):Does Tryz.prog 92 [intsV l,intsV r] (.c (.bool (eqIS l r))):=by
 refine Does.mk (fun _=>false) TT_ok Tryz.func92 rfl (by kernel_rfl) Tryz.ntmps92 rfl rfl fun E hT hE hN hR=>?_
 have hm:=mixO hE
 unfold eqIS
 refine XK.fact (Sat.rs_len (j:=0) rfl) fun hlen=>?_
 have hm':l.length≤9223372036854775807:=hlen.1
 refine XK.c ?_ ?_<;>intro h1<;>try simp at h1
 ·rw[show(l.length==r.length)=false from beq_false_of_ne (by omega)]
  refine XK.w ?_
  refine XK.q ?_
  rfl
 ·have h1:l.length=r.length:=by omega
  rw[show(l.length==r.length)=true from beq_iff_eq.2 h1]
  refine XK.w ?_
  refine XK.loop (ι:=Nat) (fun i=>ST.of [(0,intsV l),(1,intsV r),(12,.c (.int .i64 l.length)),(13,.c (.int .i64 i))] [] 1000 26 (fun _=>false))
   (fun i=>i≤l.length∧∀q,q<i→(fun i=>l.getD i default==r.getD i default) q=true) (fun i=>l.length-i) 0 ⟨Nat.zero_le _,fun q hq=>absurd hq (Nat.not_lt_zero _)⟩
   (Weak.of hN rfl rfl rfl frI frI) fun i hi=>?_
  obtain⟨hi1,hi2⟩:=hi
  refine XK.c ?_ ?_<;>intro hlt<;>try simp at hlt
  ·have f1:l.getD (i:Int).toNat default=l.getD i default:=rfl
   have f2:r.getD (i:Int).toNat default=r.getD i default:=rfl
   refine XK.w ?_
   try rw[f1,f2]
   refine XK.c ?_ ?_<;>intro hb
   ·rw[rall_not hlt (by simpa using hb)]
    refine XK.w ?_
    refine XK.q ?_
    rfl
   ·refine XK.w ?_
    refine XK.inv ⟨i+1,⟨hlt,fun q hq=>?_⟩,(Weak.of hN rfl rfl rfl frI frI),by omega⟩
    by_cases hqi:q=i
    ·subst hqi;simpa using hb
    ·exact hi2 q (by omega)
  ·rw[rall.2 fun q hq=>hi2 q (by omega)]
   refine XK.w ?_
   refine XK.q ?_
   rfl
def eqBS (l r:List Bool):Bool:=l.length==r.length&&(List.range l.length).all (fun i=>l.getD i default==r.getD i default)
theorem eqB_ok (l r:List Bool):Does Tryz.prog 159 [boolsV l,boolsV r] (.c (.bool (eqBS l r))):=by
 refine Does.mk (fun _=>false) TT_ok Tryz.func159 rfl (by kernel_rfl) Tryz.ntmps159 rfl rfl fun E hT hE hN hR=>?_
 have hm:=mixO hE
 unfold eqBS
 refine XK.fact (Sat.rs_len (j:=0) rfl) fun hlen=>?_
 have hm':l.length≤9223372036854775807:=hlen.1
 refine XK.c ?_ ?_<;>intro h1<;>try simp at h1
 ·rw[show(l.length==r.length)=false from beq_false_of_ne (by omega)]
  refine XK.w ?_
  refine XK.q ?_
  rfl
 ·have h1:l.length=r.length:=by omega
  rw[show(l.length==r.length)=true from beq_iff_eq.2 h1]
  refine XK.w ?_
  refine XK.loop (ι:=Nat) (fun i=>ST.of [(0,boolsV l),(1,boolsV r),(12,.c (.int .i64 l.length)),(13,.c (.int .i64 i))] [] 1000 26 (fun _=>false))
   (fun i=>i≤l.length∧∀q,q<i→(fun i=>l.getD i default==r.getD i default) q=true) (fun i=>l.length-i) 0 ⟨Nat.zero_le _,fun q hq=>absurd hq (Nat.not_lt_zero _)⟩
   (Weak.of hN rfl rfl rfl frI frI) fun i hi=>?_
  obtain⟨hi1,hi2⟩:=hi
  refine XK.c ?_ ?_<;>intro hlt<;>try simp at hlt
  ·have f1:l.getD (i:Int).toNat default=l.getD i default:=rfl
   have f2:r.getD (i:Int).toNat default=r.getD i default:=rfl
   refine XK.w ?_
   try rw[f1,f2]
   refine XK.c ?_ ?_<;>intro hb
   ·rw[rall_not hlt (by simpa using hb)]
    refine XK.w ?_
    refine XK.q ?_
    rfl
   ·refine XK.w ?_
    refine XK.inv ⟨i+1,⟨hlt,fun q hq=>?_⟩,(Weak.of hN rfl rfl rfl frI frI),by omega⟩
    by_cases hqi:q=i
    ·subst hqi;simpa using hb
    ·exact hi2 q (by omega)
  ·rw[rall.2 fun q hq=>hi2 q (by omega)]
   refine XK.w ?_
   refine XK.q ?_
   rfl
def eqMk (a b:Mk):Bool:=a.status==b.status&&(a.left==b.left&&(a.got==b.got&&(a.bearer==b.bearer&&a.paused==b.paused)))
theorem eqMk_iff {a b:Mk}:eqMk a b=true↔a=b:=by
 cases a;cases b;simp[eqMk]
def eqMS (l r:List Mk):Bool:=l.length==r.length&&(List.range l.length).all (fun i=>eqMk (l.getD i default) (r.getD i default))
theorem eqM_ok (l r:List Mk):Does Tryz.prog 160 [rowL mkC 5 l,rowL mkC 5 r] (.c (.bool (eqMS l r))):=by
 refine Does.mk (fun _=>false) TT_ok Tryz.func160 rfl (by kernel_rfl) Tryz.ntmps160 rfl rfl fun E hT hE hN hR=>?_
 have hm:=mixO hE
 unfold eqMS
 refine XK.fact (Sat.rs_len (j:=0) rfl) fun hlen=>?_
 have hm':l.length≤9223372036854775807:=hlen.1
 refine XK.c ?_ ?_<;>intro h1<;>try simp at h1
 ·rw[show(l.length==r.length)=false from beq_false_of_ne (by omega)]
  refine XK.w ?_
  refine XK.q ?_
  rfl
 ·have h1:l.length=r.length:=by omega
  rw[show(l.length==r.length)=true from beq_iff_eq.2 h1]
  refine XK.w ?_
  refine XK.loop (ι:=Nat) (fun i=>ST.of [(0,rowL mkC 5 l),(1,rowL mkC 5 r),(12,.c (.int .i64 l.length)),(13,.c (.int .i64 i))] [] 1000 26 (fun _=>false))
   (fun i=>i≤l.length∧∀q,q<i→(fun i=>eqMk (l.getD i default) (r.getD i default)) q=true) (fun i=>l.length-i) 0 ⟨Nat.zero_le _,fun q hq=>absurd hq (Nat.not_lt_zero _)⟩
   (Weak.of hN rfl rfl rfl frI frI) fun i hi=>?_
  obtain⟨hi1,hi2⟩:=hi
  refine XK.c ?_ ?_<;>intro hlt<;>try simp at hlt
  ·have f1:l.getD (i:Int).toNat default=l.getD i default:=rfl
   have f2:r.getD (i:Int).toNat default=r.getD i default:=rfl
   refine XK.w ?_
   try rw[f1,f2]
   refine XK.c ?_ ?_<;>intro hb
   ·rw[rall_not hlt (by rw[Bool.eq_false_iff];intro h;rw[eqMk_iff] at h;rw[List.getD_eq_getElem?_getD,List.getD_eq_getElem?_getD] at h;simp[h] at hb)]
    refine XK.w ?_
    refine XK.q ?_
    rfl
   ·refine XK.w ?_
    refine XK.inv ⟨i+1,⟨hlt,fun q hq=>?_⟩,(Weak.of hN rfl rfl rfl frI frI),by omega⟩
    by_cases hqi:q=i
    ·subst hqi;simpa[eqMk] using hb
    ·exact hi2 q (by omega)
  ·rw[rall.2 fun q hq=>hi2 q (by omega)]
   refine XK.w ?_
   refine XK.q ?_
   rfl
def sameS (a b:St):Bool:=a.day==b.day&&eqIS a.holders b.holders&&eqBS a.used b.used&&eqMS a.marks b.marks
theorem sameS_ok (a b:St):Does Tryz.prog 132 [stV a,stV b] (.c (.bool (sameS a b))):=by
 refine Does.mk (fun _=>false) TT_ok Tryz.func132 rfl (by kernel_rfl) Tryz.ntmps132 rfl rfl fun E hT hE hN hR=>?_
 have hm:=mixO hE
 refine XK.r ?_
 refine XL.callGA hE rfl rfl rfl rfl rfl rfl rfl rfl (eqI_ok a.holders b.holders) rfl ?_
 refine XL.g ?_
 refine XL.callGA hE rfl rfl rfl rfl rfl rfl rfl rfl (eqB_ok a.used b.used) rfl ?_
 refine XL.g ?_
 refine XL.callGA hE rfl rfl rfl rfl rfl rfl rfl rfl (eqM_ok a.marks b.marks) rfl ?_
 refine XL.e ?_
 refine XK.q ?_
 rfl
end
section
open Go.Eng
def wO (k:K) (w:Wk) (h u m:Nat):Ob:=.cells 75 [.c (.int .i64 k.parties),intsV k.holders,unitsV k.units,actsV k.acts,clsV k.clauses,.c (.int .i64 k.days),intsV k.off,
 .c (.int .i64 w.day),.vec h 0,.vec u 0,.vec m 0]
def wOs (k:K) (w:Wk):List Ob:=[wO k w 1 2 3,wHold k w,wUsed k w,wMark k w]
def wN (k:K) (w:Wk):List (Nat×Ob):=[(0,wO k w 1 2 3),(1,wHold k w),(2,wUsed k w),(3,wMark k w)]
theorem wend_ok (k:K) (w:Wk) (i:Nat) (s:Int) (hi:i<k.clauses.length):DoesM Tryz.prog 105 [.ptr 0 0,.c (.int .i64 i),.c (.int .i64 s)] (wOs k w) (.tup []) (wOs k (w.upM i (endM (w.mark i) s))):=by
 refine DoesM.mk (fun _=>false) 100 TT_ok Tryz.func105 rfl (by kernel_rfl) Tryz.ntmps105 rfl rfl rfl fun E hT hE hN hR=>?_
 have hm:=mixO hE
 refine XK.w ?_
 refine XK.t [0,1,2,3] ?_ ?_
 ·(repeat' (first|exact rfl|exact AvIs.refl _|exact trivial|exact fun _ _=>rfl|exact fun _ _=>⟨rfl,AvIs.refl _⟩|exact fun _ hi=>absurd hi (Nat.not_lt_zero _)|(intro i hi;cases Nat.lt_one_iff.1 hi;rfl)|(intro j hj;by_cases hji:j=(i);(· subst hji;simp[setRowF,setL,mkC,Wk.upM,endM];done);(· simp[setRowF,beq_false hji,Wk.upM,endM,hji,lt_succ_ne hji];done))|refine⟨?_,?_⟩))
 ·exact frI
theorem done_ok (k:K) (w:Wk) (i:Nat) (hi:i<k.clauses.length):DoesM Tryz.prog 58 [.ptr 0 0,.c (.int .i64 i)] (wOs k w) (.tup []) (wOs k (w.upM i (endM (w.mark i) 3))):=by
 refine DoesM.mk (fun _=>false) 100 TT_ok Tryz.func58 rfl (by kernel_rfl) Tryz.ntmps58 rfl rfl rfl fun E hT hE hN hR=>?_
 have hm:=mixO hE
 refine XK.r ?_
 refine XL.callMA [0,1,2,3] hE rfl rfl rfl rfl trivial (wend_ok k w i 3 hi) rfl rfl rfl rfl rfl ?_
 refine XL.e ?_
 refine XK.t [0,1,2,3] ?_ ?_
 ·exact frI
 ·exact frI
theorem lapse_ok (k:K) (w:Wk) (i:Nat) (hi:i<k.clauses.length):DoesM Tryz.prog 59 [.ptr 0 0,.c (.int .i64 i)] (wOs k w) (.tup []) (wOs k (w.upM i (endM (w.mark i) 5))):=by
 refine DoesM.mk (fun _=>false) 100 TT_ok Tryz.func59 rfl (by kernel_rfl) Tryz.ntmps59 rfl rfl rfl fun E hT hE hN hR=>?_
 have hm:=mixO hE
 refine XK.r ?_
 refine XL.callMA [0,1,2,3] hE rfl rfl rfl rfl trivial (wend_ok k w i 5 hi) rfl rfl rfl rfl rfl ?_
 refine XL.e ?_
 refine XK.t [0,1,2,3] ?_ ?_
 ·exact frI
 ·exact frI
theorem upM_same (w:Wk) (i:Nat) (m:Mk):(w.upM i m).mark i=m:=by simp[Wk.upM]
theorem upM_upM (w:Wk) (i:Nat) (m m':Mk):(w.upM i m).upM i m'=w.upM i m':=by
 unfold Wk.upM
 congr 1
 funext j
 by_cases h:j=i<;>simp[h]
theorem upM_self (w:Wk) (i:Nat):w.upM i (w.mark i)=w:=by
 unfold Wk.upM
 have:(fun j=>if j=i then w.mark i else w.mark j)=w.mark:=by
  funext j
  by_cases h:j=i
  ·subst h;simp
  ·simp[h]
 rw[this]
theorem violate_ok (k:K) (w:Wk) (i:Nat) (hi:i<k.clauses.length):DoesM Tryz.prog 63 [.ptr 0 0,.c (.int .i64 i)] (wOs k w) (.tup []) (wOs k (w.upM i (violM (w.mark i)))):=by
 refine DoesM.mk (fun _=>false) 100 TT_ok Tryz.func63 rfl (by kernel_rfl) Tryz.ntmps63 rfl rfl rfl fun E hT hE hN hR=>?_
 have hm:=mixO hE
 have fm:w.mark (i:Int).toNat=w.mark i:=rfl
 unfold violM
 refine XK.c ?_ ?_<;>intro h<;>try simp at h
 ·rw[if_neg (show ¬(w.mark i).paused=true by rw[show(w.mark i).paused=false from h];simp)]
  refine XK.w ?_
  refine XK.r ?_
  refine XL.callMA [0,1,2,3] hE rfl rfl rfl rfl trivial (wend_ok k w i 4 hi) rfl rfl rfl rfl rfl ?_
  refine XL.e ?_
  refine XK.t [0,1,2,3] ?_ ?_
  ·exact frI
  ·exact frI
 ·rw[if_pos (show(w.mark i).paused=true from h),upM_self]
  refine XK.w ?_
  refine XK.t [0,1,2,3] ?_ ?_
  ·exact frI
  ·exact frI
theorem perform_ok (k:K) (hk:KFacts k) (w:Wk) (i:Nat) (hi:i<k.clauses.length) (hg:0≤(w.mark i).got∧(w.mark i).got≤1000):DoesM Tryz.prog 62 [.ptr 0 0,.c (.int .i64 i)] (wOs k w) (.tup []) (wOs k (w.upM i (performM (clAt k i) (w.mark i)))):=by
 refine DoesM.mk (fun _=>false) 100 TT_ok Tryz.func62 rfl (by kernel_rfl) Tryz.ntmps62 rfl rfl rfl fun E hT hE hN hR=>?_
 have hm:=mixO hE
 have fm:w.mark (i:Int).toNat=w.mark i:=rfl
 have fc:k.clauses.getD (i:Int).toNat default=clAt k i:=rfl
 have f2:(w.upM i (moreM (w.mark i))).mark (i:Int).toNat=moreM (w.mark i):=upM_same w i _
 unfold performM
 refine XK.w ?_
 refine XK.weak (Weak.of (L:=[(0,.ptr 0 0),(1,.c (.int .i64 i))]) (O:=wN k (w.upM i (moreM (w.mark i)))) (nx:=1000) (nt:=38) (md:=fun _=>false) hN rfl rfl rfl frI (by(repeat' (first|exact rfl|exact AvIs.refl _|exact trivial|exact fun _ _=>rfl|exact fun _ _=>⟨rfl,AvIs.refl _⟩|exact fun _ hi=>absurd hi (Nat.not_lt_zero _)|(intro i hi;cases Nat.lt_one_iff.1 hi;rfl)|(intro j hj;by_cases hji:j=(i);(· subst hji;simp[setRowF,setL,mkC,Wk.upM,moreM];done);(· simp[setRowF,beq_false hji,Wk.upM,moreM,hji,lt_succ_ne hji];done))|refine⟨?_,?_⟩)))) ?_
 refine XK.w ?_
 rw[f2,fc]
 refine XK.c ?_ ?_<;>intro h<;>try simp at h
 ·have h:(w.mark i).got+1=(clAt k i).need:=h
  rw[if_pos h]
  refine XK.w ?_
  refine XK.r ?_
  refine XL.callMA [0,1,2,3] hE rfl rfl rfl rfl trivial (wend_ok k (w.upM i (moreM (w.mark i))) i 3 hi) rfl rfl rfl rfl rfl ?_
  refine XL.e ?_
  rw[upM_same,upM_upM]
  refine XK.t [0,1,2,3] ?_ ?_
  ·exact frI
  ·exact frI
 ·have h:¬(w.mark i).got+1=(clAt k i).need:=h
  rw[if_neg h]
  refine XK.w ?_
  refine XK.t [0,1,2,3] ?_ ?_
  ·exact frI
  ·exact frI
theorem expire_ok (k:K) (hk:KFacts k) (w:Wk) (i:Nat) (hi:i<k.clauses.length):DoesM Tryz.prog 57 [.ptr 0 0,.c (.int .i64 i)] (wOs k w) (.tup []) (wOs k (w.upM i (expM (clAt k i) (w.mark i)))):=by
 refine DoesM.mk (fun _=>false) 100 TT_ok Tryz.func57 rfl (by kernel_rfl) Tryz.ntmps57 rfl rfl rfl fun E hT hE hN hR=>?_
 have hm:=mixO hE
 have fm:w.mark (i:Int).toNat=w.mark i:=rfl
 have fc:k.clauses.getD (i:Int).toNat default=clAt k i:=rfl
 unfold expM
 refine XK.w ?_
 rw[fm,fc]
 refine XK.c ?_ ?_<;>intro h<;>try simp at h
 ·rw[if_pos h]
  refine XK.w ?_
  refine XK.t [0,1,2,3] ?_ ?_
  ·(repeat' (first|exact rfl|exact AvIs.refl _|exact trivial|exact fun _ _=>rfl|exact fun _ _=>⟨rfl,AvIs.refl _⟩|exact fun _ hi=>absurd hi (Nat.not_lt_zero _)|(intro i hi;cases Nat.lt_one_iff.1 hi;rfl)|(intro j hj;by_cases hji:j=(i);(· subst hji;simp[setRowF,setL,mkC,Wk.upM,clAt];done);(· simp[setRowF,beq_false hji,Wk.upM,clAt,hji,lt_succ_ne hji];done))|refine⟨?_,?_⟩))
  ·exact frI
 ·rw[if_neg (by simpa using h)]
  refine XK.w ?_
  refine XK.r ?_
  refine XL.callMA [0,1,2,3] hE rfl rfl rfl rfl trivial (wend_ok k w i 4 hi) rfl rfl rfl rfl rfl ?_
  refine XL.e ?_
  refine XK.t [0,1,2,3] ?_ ?_
  ·exact frI
  ·exact frI
end
end Go.Proofs.YtgpkkllbejgmlaaGreatDoor
